/- A part of this claim's proof: models of functions, walks, plain laws. No conditions. -/
import Derived.Test.YtinchjigeakocaaP31z
namespace Go.Proofs.Ytinchjigeakocaa
open Go Go.RowKit Sep
set_option linter.all false
/-! ### the reference's tests -/
theorem ya2 {c : Cf} (h : Small c) {n : Int} (hn : -9223372036854775808 ≤ n ∧ n ≤ 9223372036854775807) : y4g c n = y20 c n := by
 have := h.m; have := h.s
 unfold y4g y20
 rw [y5v h]
 unfold nN
 rw [yo (x := (c.fModules.length : Int) + c.fSwitches.length) (by omega)]
 by_cases h1 : n < 0
 ·rw [if_neg (by simp only [Bool.and_eq_true, decide_eq_true_eq]; omega), if_neg (by simp only [Bool.and_eq_true, decide_eq_true_eq]; omega), if_pos (decide_eq_true h1)]
  rfl
 ·rw [if_neg (c := decide (n < 0) = true) (by rw [decide_eq_true_eq]; exact h1)]
  simp only [Option.bind_some]
  by_cases h2 : n < c.fModules.length
  ·rw [if_pos (by simp only [Bool.and_eq_true, decide_eq_true_eq]; omega), if_neg (by rw [decide_eq_true_eq]; omega), if_pos (decide_eq_true h2)]
  ·rw [if_neg (by simp only [Bool.and_eq_true, decide_eq_true_eq]; omega)]
   by_cases h3 : n < (c.fModules.length : Int) + c.fSwitches.length
   ·rw [if_pos (by simp only [Bool.and_eq_true, decide_eq_true_eq]; omega), if_neg (by rw [decide_eq_true_eq]; omega), if_neg (by rw [decide_eq_true_eq]; exact h2)]
   ·rw [if_neg (by simp only [Bool.and_eq_true, decide_eq_true_eq]; omega), if_pos (by rw [decide_eq_true_eq]; omega)]
theorem y9p {c : Cf} (h : Small c) {nm : ByteArray} {k : Option Int} : ∀ (f : Nat) (v : Int), 0 ≤ v → v ≤ nN c → y2y c nm k f v = y1x (nN c) c nm k f v
 | 0, v, h0, h1 => by rw [y2y, y1x]
 | f + 1, v, h0, h1 => by
  have hb : nN c ≤ 2000 := by have := h.m; have := h.s; unfold nN; omega
  have e : i64 ((c.fModules.length : Int) + c.fSwitches.length) = nN c := by unfold nN at *; exact yo (by omega)
  rw [y2y, y1x, e, ya2 h (by omega)]
  by_cases h3 : v < nN c
  ·rw [yo (x := v + 1) (by omega), y9p h f (v + 1) (by omega) (by omega)]
  ·rw [if_neg (by rw [decide_eq_true_eq]; exact h3), if_neg (by rw [decide_eq_true_eq]; exact h3)]
theorem ya3 {c : Cf} (h : Small c) (nm : ByteArray) : y4h c nm = y1Q c nm := by
 unfold y4h y1Q
 rw [y5v h]
 simp only [Option.bind_some]
 have hb : 0 ≤ nN c := by unfold nN; omega
 simp only [y9p h _ 0 (by omega) hb]
theorem yaL {c : Cf} (h : Small c) {net n : Int} (hn : -1 ≤ n ∧ n < nN c) : y4H c net n = some (decide (y4N c net n)) := by
 have := h.m; have := h.s
 unfold y4H
 unfold nN at hn
 by_cases h0 : n < 0
 ·rw [if_pos (decide_eq_true h0), decide_eq_false]; exact fun hc => by have := hc.1; omega
 ·rw [if_neg (by rw [decide_eq_true_eq]; exact h0)]
  by_cases h1 : n < c.fModules.length
  ·rw [if_pos (decide_eq_true h1), decide_eq_true]; exact ⟨by omega, .inl h1⟩
  ·rw [if_neg (by rw [decide_eq_true_eq]; exact h1), yo (by omega), yf ⟨by omega, by omega⟩]
   refine congrArg some ?_
   rw [Bool.eq_iff_iff, decide_eq_true_iff]
   unfold y4N sw nM
   simp only [Bool.and_eq_true, decide_eq_true_eq]
   constructor
   ·rintro ⟨⟨⟨⟨a, b⟩, e⟩, d⟩, f⟩; exact ⟨by omega, .inr ⟨a, b, e, d, f⟩⟩
   ·rintro ⟨_, a | ⟨a, b, e, d, f⟩⟩
    ·exact absurd a h1
    ·exact ⟨⟨⟨⟨a, b⟩, e⟩, d⟩, f⟩
theorem ybd {c : Cf} (h : Small c) (net link a b : Int) : y4D c net link a b = some (decide (JN c net link a b)) := by
 unfold y4D
 by_cases h1 : link < 0 ∨ link ≥ c.fLinks.length
 ·have hb : (decide (link < 0) || decide (link ≥ ((c.fLinks.length : Nat) : Int))) = true := by simpa using h1
  rw [hb]
  simp only [Bool.true_or, if_true]
  rw [yf (by simp), yf (by simp), yf (by simp)]
  congr 1; symm
  rw [decide_eq_false_iff_not]
  rintro ⟨a, b, _⟩; omega
 ·have hin : (0 : Int) ≤ link ∧ link < c.fLinks.length := by omega
  rw [yf (fun _ => hin), yf (fun _ => hin), yf (fun _ => hin)]
  by_cases h2 : (nth c.fLinks link).fNet = net ∧ 1 ≤ (nth c.fLinks link).fSlow ∧ (nth c.fLinks link).fSlow ≤ 16
  ·rw [if_neg (by simp only [Bool.or_eq_true, decide_eq_true_eq]; rintro ((((q | q) | q) | q) | q) <;> omega), yf hin]
   obtain ⟨a1, a2, a3⟩ := fA_eq h link
   obtain ⟨b1, b2, b3⟩ := fB_eq h link
   rw [ya3 h, ya3 h, a1, b1]
   simp only [Option.bind_some]
   rw [yaL h ⟨a2, a3⟩, yaL h ⟨b2, b3⟩]
   simp only [Option.bind_some]
   by_cases h3 : fA c link = fB c link
   ·rw [if_pos (decide_eq_true h3)]
    simp only [Option.bind_some, if_true]
    congr 1; symm
    rw [decide_eq_false_iff_not]
    rintro ⟨_, _, _, _, _, x, _⟩; exact x h3
   ·rw [if_neg (by rw [decide_eq_true_eq]; exact h3)]
    simp only [Option.bind_some]
    by_cases h4 : y4N c net (fA c link)
    ·rw [decide_eq_true h4]
     simp only [Bool.not_true, Bool.false_eq_true, if_false, Option.bind_some]
     by_cases h5 : y4N c net (fB c link)
     ·rw [decide_eq_true h5]
      simp only [Bool.not_true, Bool.false_eq_true, if_false]
      congr 1
      rw [Bool.eq_iff_iff]
      simp only [Bool.and_eq_true, Bool.or_eq_true, decide_eq_true_eq]
      constructor
      ·intro y; exact ⟨hin.1, hin.2, h2.1, h2.2.1, h2.2.2, h3, h4, h5, y⟩
      ·rintro ⟨_, _, _, _, _, _, _, _, y⟩; exact y
     ·rw [decide_eq_false h5]
      simp only [Bool.not_false, if_true]
      congr 1; symm
      rw [decide_eq_false_iff_not]
      rintro ⟨_, _, _, _, _, _, _, x, _⟩; exact h5 x
    ·rw [decide_eq_false h4]
     simp only [Bool.not_false, if_true, Option.bind_some]
     congr 1; symm
     rw [decide_eq_false_iff_not]
     rintro ⟨_, _, _, _, _, _, x, _⟩; exact h4 x
  ·rw [if_pos (by simp only [Bool.or_eq_true, decide_eq_true_eq]; omega)]
   congr 1; symm
   rw [decide_eq_false_iff_not]
   rintro ⟨_, _, x, y, z, _⟩; exact h2 ⟨x, y, z⟩
theorem ref_L4 {r : List Hop} {i : Int} {K : Bool → Bool → Option Bool} (hi : 0 ≤ i ∧ i < r.length) (hl : r.length ≤ 1000) : ∀ (n : Nat) (R A : Bool) (v : Int), 0 ≤ v → v ≤ i → i < n + v →
  ∃ R' A', y2J i r K n R A v = K R' A' ∧ (R' = true ↔ R = true ∨ ∃ q : Int, v ≤ q ∧ q < i ∧ (nth r q).fNext = (nth r i).fNode) ∧ (A' = true ↔ A = true ∨ ∃ q : Int, v ≤ q ∧ q < i ∧ (nth r q).fNext = (nth r i).fNext)
 | 0, R, A, v, h0, h1, h2 => by omega
 | n + 1, R, A, v, h0, h1, h2 => by
  rw [y2J]
  by_cases h : v < i
  ·rw [if_pos (decide_eq_true h)]
   refine y44 (P := fun o => ∃ R' A', o = K R' A' ∧ (R' = true ↔ R = true ∨ ∃ q : Int, v ≤ q ∧ q < i ∧ (nth r q).fNext = (nth r i).fNode) ∧ (A' = true ↔ A = true ∨ ∃ q : Int, v ≤ q ∧ q < i ∧ (nth r q).fNext = (nth r i).fNext)) fun k2 hk2 => ?_
   have hv : (0 : Int) ≤ v ∧ v < r.length := by omega
   have main : ∀ R1 A1 : Bool, (R1 = true ↔ R = true ∨ (nth r v).fNext = (nth r i).fNode) → (A1 = true ↔ A = true ∨ (nth r v).fNext = (nth r i).fNext) → ∃ R' A', k2 R1 A1 = K R' A' ∧ (R' = true ↔ R = true ∨ ∃ q : Int, v ≤ q ∧ q < i ∧ (nth r q).fNext = (nth r i).fNode) ∧ (A' = true ↔ A = true ∨ ∃ q : Int, v ≤ q ∧ q < i ∧ (nth r q).fNext = (nth r i).fNext) := by
    intro R1 A1 e1 e2
    obtain ⟨R', A', f1, f2, f3⟩ := ref_L4 (K := K) hi hl n R1 A1 (v + 1) (by omega) (by omega) (by omega)
    have ex : ∀ p : Int → Prop, (∃ q : Int, v ≤ q ∧ q < i ∧ p q) ↔ p v ∨ ∃ q : Int, v + 1 ≤ q ∧ q < i ∧ p q := by
     intro p
     constructor
     ·rintro ⟨q, q1, q2, q3⟩
      by_cases e : q = v
      ·subst e; exact .inl q3
      ·exact .inr ⟨q, by omega, q2, q3⟩
     ·rintro (q | ⟨q, q1, q2, q3⟩)
      ·exact ⟨v, Int.le_refl _, h, q⟩
      ·exact ⟨q, by omega, q2, q3⟩
    refine ⟨R', A', by rw [hk2, yo (x := v + 1) (by omega), f1], ?_, ?_⟩
    ·rw [f2, e1, ex, or_assoc]
    ·rw [f3, e2, ex, or_assoc]
   refine y1h (P := fun o => ∃ R' A', o = K R' A' ∧ (R' = true ↔ R = true ∨ ∃ q : Int, v ≤ q ∧ q < i ∧ (nth r q).fNext = (nth r i).fNode) ∧ (A' = true ↔ A = true ∨ ∃ q : Int, v ≤ q ∧ q < i ∧ (nth r q).fNext = (nth r i).fNext)) fun k1 hk1 => ?_
   have sec : ∀ R1 : Bool, (R1 = true ↔ R = true ∨ (nth r v).fNext = (nth r i).fNode) → ∃ R' A', k1 R1 = K R' A' ∧ (R' = true ↔ R = true ∨ ∃ q : Int, v ≤ q ∧ q < i ∧ (nth r q).fNext = (nth r i).fNode) ∧ (A' = true ↔ A = true ∨ ∃ q : Int, v ≤ q ∧ q < i ∧ (nth r q).fNext = (nth r i).fNext) := by
    intro R1 e1
    rw [hk1, yf hv, yf hi]
    by_cases e : (nth r v).fNext = (nth r i).fNext
    ·rw [if_pos (decide_eq_true e)]
     exact main R1 true e1 (by simp [e])
    ·rw [if_neg (by rw [decide_eq_true_eq]; exact e)]
     exact main R1 A e1 (by simp [e])
   rw [yf hv, yf hi]
   by_cases e : (nth r v).fNext = (nth r i).fNode
   ·rw [if_pos (decide_eq_true e)]
    exact sec true (by simp [e])
   ·rw [if_neg (by rw [decide_eq_true_eq]; exact e)]
    exact sec R (by simp [e])
  ·rw [if_neg (by rw [decide_eq_true_eq]; exact h)]
   refine ⟨R, A, rfl, ?_, ?_⟩
   ·exact ⟨.inl, fun hc => hc.elim id fun ⟨q, q1, q2, _⟩ => by omega⟩
   ·exact ⟨.inl, fun hc => hc.elim id fun ⟨q, q1, q2, _⟩ => by omega⟩
theorem ref_L3 {c : Cf} (h : Small c) {net : Int} {r : List Hop} {k : Option Bool} (hl : r.length ≤ 1000) : ∀ (n : Nat) (v : Int), 0 ≤ v → v ≤ r.length → r.length < n + v →
  (∃ q : Int, v ≤ q ∧ q < r.length ∧ ¬ y46 c net r q) ∧ y2k r c net k n v = some false ∨ (∀ q : Int, v ≤ q → q < r.length → y46 c net r q) ∧ y2k r c net k n v = k
 | 0, v, h0, h1, h2 => by omega
 | n + 1, v, h0, h1, h2 => by
  rw [y2k]
  by_cases hv : v < r.length
  ·rw [if_pos (decide_eq_true hv)]
   refine y43 (P := fun o => (∃ q : Int, v ≤ q ∧ q < r.length ∧ ¬ y46 c net r q) ∧ o = some false ∨ (∀ q : Int, v ≤ q → q < r.length → y46 c net r q) ∧ o = k) fun k0 hk0 => ?_
   rw [yf (fun _ => ⟨h0, hv⟩), yf (fun _ => ⟨by omega, by omega⟩), yf ⟨h0, hv⟩, yf ⟨by omega, by omega⟩]
   refine y44 (P := fun o => (∃ q : Int, v ≤ q ∧ q < r.length ∧ ¬ y46 c net r q) ∧ o = some false ∨ (∀ q : Int, v ≤ q → q < r.length → y46 c net r q) ∧ o = k) fun k2 hk2 => ?_
   obtain ⟨R, A, e1, e2, e3⟩ := ref_L4 (K := k2) ⟨h0, hv⟩ hl yw (decide (v = 0) || decide ((nth r v).fNode = (nth r 0).fNode)) (decide ((nth r v).fNext = (nth r 0).fNode)) 0 (by omega) h0 (by rw [y1k]; omega)
   rw [e1, hk2]
   have hR : R = true ↔ RK r v (nth r v).fNode := by
    rw [e2]
    unfold RK
    simp only [Bool.or_eq_true, decide_eq_true_eq]
    constructor
    ·rintro ((q | q) | q)
     ·subst q; exact .inl rfl
     ·exact .inl q
     ·exact .inr q
    ·rintro (q | q)
     ·exact .inl (.inr q)
     ·exact .inr q
   have hA : A = true ↔ RK r v (nth r v).fNext := by
    rw [e3]
    unfold RK
    simp only [decide_eq_true_eq]
   have good : y46 c net r v → (∃ q : Int, v ≤ q ∧ q < r.length ∧ ¬ y46 c net r q) ∧ k0 = some false ∨ (∀ q : Int, v ≤ q → q < r.length → y46 c net r q) ∧ k0 = k := by
    intro hc
    rw [hk0, yo (x := v + 1) (by omega)]
    rcases ref_L3 h hl n (v + 1) (by omega) (by omega) (by omega) (k := k) (net := net) with ⟨⟨q, q1, q2, q3⟩, h3⟩ | ⟨h3, h4⟩
    ·exact .inl ⟨⟨q, by omega, q2, q3⟩, h3⟩
    ·refine .inr ⟨fun q q1 q2 => ?_, h4⟩
     by_cases e : q = v
     ·rw [e]; exact hc
     ·exact h3 q (by omega) q2
   rw [yf (fun _ => ⟨h0, hv⟩), yf (fun _ => ⟨by omega, by omega⟩), yf (fun _ _ => ⟨h0, hv⟩)]
   by_cases hq : RK r v (nth r v).fNode ∧ ¬ RK r v (nth r v).fNext ∧ ((nth r v).fNode = (nth r 0).fNode ∨ nM c ≤ (nth r v).fNode)
   ·have hR' := hR.2 hq.1
    have hA' : A = false := by
     cases A with
     | false => rfl
     | true => exact absurd (hA.1 rfl) hq.2.1
    rw [if_neg (by
     rw [hR', hA']
     simp only [Bool.not_true, Bool.or_self, Bool.false_or, Bool.and_eq_true, decide_eq_true_eq]
     rintro ⟨a, b⟩
     rcases hq.2.2 with q | q
     ·exact a q
     ·unfold nM at q; omega), yf ⟨h0, hv⟩, ybd h]
    simp only [Option.bind_some]
    by_cases hj : JN c net (nth r v).fLink (nth r v).fNode (nth r v).fNext
    ·rw [decide_eq_true hj]
     simp only [Bool.not_true, Bool.false_eq_true, if_false]
     exact good ⟨hq.1, hq.2.1, hq.2.2, hj⟩
    ·rw [decide_eq_false hj]
     simp only [Bool.not_false, if_true]
     exact .inl ⟨⟨v, Int.le_refl _, hv, fun hc => hj hc.2.2.2⟩, trivial⟩
   ·rw [if_pos (by
     simp only [Bool.or_eq_true, Bool.and_eq_true, Bool.not_eq_true', decide_eq_true_eq]
     by_cases q1 : RK r v (nth r v).fNode
     ·by_cases q2 : RK r v (nth r v).fNext
      ·exact .inl (.inr (hA.2 q2))
      ·right
       refine ⟨fun e => hq ⟨q1, q2, .inl e⟩, ?_⟩
       by_cases q3 : nM c ≤ (nth r v).fNode
       ·exact absurd ⟨q1, q2, .inr q3⟩ hq
       ·unfold nM at q3; omega
     ·left; left
      cases R with
      | false => rfl
      | true => exact absurd (hR.1 rfl) q1)]
    simp only [Option.bind_some, if_true]
    exact .inl ⟨⟨v, Int.le_refl _, hv, fun hc => hq ⟨hc.1, hc.2.1, hc.2.2.1⟩⟩, trivial⟩
  ·rw [if_neg (by rw [decide_eq_true_eq]; exact hv)]
   exact .inr ⟨fun q h1 h2 => by omega, rfl⟩
theorem ybe {c : Cf} (h : Small c) {net : Int} {r : List Hop} : ∃ b, y4E c net r = some b ∧ (b = true ↔ VR c net r) := by
 unfold y4E
 by_cases h1 : ((r.length : Nat) : Int) > 32
 ·rw [if_pos (decide_eq_true h1)]
  refine ⟨false, rfl, ?_⟩
  simp only [Bool.false_eq_true, false_iff]
  exact fun hc => by have := hc.len; omega
 ·rw [if_neg (by rw [decide_eq_true_eq]; exact h1)]
  refine y43 (P := fun o => ∃ b, o = some b ∧ (b = true ↔ VR c net r)) fun k hk => ?_
  rcases ref_L3 h (net := net) (r := r) (k := k) (by omega) yw 0 (by omega) (by omega) (by rw [y1k]; omega) with ⟨⟨q, q1, q2, q3⟩, h3⟩ | ⟨h3, h4⟩
  ·refine ⟨false, h3, ?_⟩
   simp only [Bool.false_eq_true, false_iff]
   exact fun hc => q3 (hc.cond q q1 q2)
  ·exact ⟨true, h4.trans hk, by simp; exact ⟨by omega, h3⟩⟩
theorem y8I {c : Cf} (h : Small c) {net : Int} {rs : List (List Hop)} {k : Option Bool} (hl : rs.length ≤ 1000) : ∀ (n : Nat) (v : Int), 0 ≤ v → v ≤ rs.length → rs.length < n + v →
  (¬ ∀ r ∈ rs.drop v.toNat, VR c net r) ∧ y2l rs c net k n v = some false ∨ (∀ r ∈ rs.drop v.toNat, VR c net r) ∧ y2l rs c net k n v = k
 | 0, v, h0, h1, h2 => by omega
 | n + 1, v, h0, h1, h2 => by
  rw [y2l]
  by_cases hv : v < rs.length
  ·obtain ⟨b, b1, b2⟩ := ybe h (net := net) (r := nth rs v)
   rw [if_pos (decide_eq_true hv), yf ⟨h0, hv⟩, b1, y39 h0 hv]
   simp only [Option.bind_some]
   cases b with
   | false =>
    rw [if_pos (by rfl)]
    refine .inl ⟨fun hc => ?_, rfl⟩
    have := b2.2 (hc _ (by simp))
    cases this
   | true =>
    have hb := b2.1 rfl
    rw [if_neg (by simp), yo (x := v + 1) (by omega)]
    rcases y8I h hl n (v + 1) (by omega) (by omega) (by omega) (k := k) (net := net) with ⟨a, e⟩ | ⟨a, e⟩
    ·rw [show (v + 1).toNat = v.toNat + 1 by omega] at a
     exact .inl ⟨fun hc => a fun r hr => hc r (List.mem_cons_of_mem _ hr), e⟩
    ·rw [show (v + 1).toNat = v.toNat + 1 by omega] at a
     refine .inr ⟨fun r hr => ?_, e⟩
     rcases List.mem_cons.1 hr with rfl | hr
     ·exact hb
     ·exact a r hr
  ·rw [if_neg (by rw [decide_eq_true_eq]; exact hv), List.drop_eq_nil_of_le (by omega)]
   exact .inr ⟨by simp, rfl⟩
theorem y9q {c : Cf} (h : Small c) {net : Int} {rs : List (List Hop)} : ∃ b, y3V c net rs = some b ∧ (b = true ↔ VA c net rs) := by
 unfold y3V
 by_cases h1 : (net = 0 ∨ net = 1) ∧ rs.length = c.fVLs.length ∧ rs.length ≤ 16
 ·rw [if_neg (by simp only [Bool.and_eq_true, Bool.or_eq_true, decide_eq_true_eq]; omega)]
  refine y43 (P := fun o => ∃ b, o = some b ∧ (b = true ↔ VA c net rs)) fun k hk => ?_
  rcases y8I h (net := net) (rs := rs) (k := k) (by omega) yw 0 (by omega) (by omega) (by rw [y1k]; omega) with ⟨a, e⟩ | ⟨a, e⟩
  ·refine ⟨false, e, ?_⟩
   simp only [Bool.false_eq_true, false_iff]
   exact fun hc => a (by simpa using hc.each)
  ·exact ⟨true, e.trans hk, by simp; exact ⟨h1.1, h1.2.1, h1.2.2, by simpa using a⟩⟩
 ·rw [if_pos (by simp only [Bool.and_eq_true, Bool.or_eq_true, decide_eq_true_eq]; omega)]
  refine ⟨false, rfl, ?_⟩
  simp only [Bool.false_eq_true, false_iff]
  exact fun hc => h1 ⟨hc.nt, hc.len, hc.most⟩
theorem y83 {c : Cf} {l : List Snt} {k : Option Bool} (hs : l.length < 1000000000) : ∀ (n : Nat) (v : Int), 0 ≤ v → v ≤ l.length → l.length < n + v →
  (∃ q : Int, v ≤ q ∧ q < l.length ∧ ¬ FG c l q) ∧ y2c l c k n v = some false ∨ (∀ q : Int, v ≤ q → q < l.length → FG c l q) ∧ y2c l c k n v = k
 | 0, v, h0, h1, h2 => by omega
 | n + 1, v, h0, h1, h2 => by
  rw [y2c]
  by_cases h : v < l.length
  ·have hv : (0 : Int) ≤ v ∧ v < l.length := ⟨h0, h⟩
   have hi : decide (v > 0) = true → (0 : Int) ≤ i64 (v - 1) ∧ i64 (v - 1) < ((l.length : Nat) : Int) := fun h' => by have h' := of_decide_eq_true h'; rw [yo (by omega)]; omega
   rw [if_pos (decide_eq_true h), yf hv, yf (fun _ => hv), yf (fun _ => hv), yf (fun _ => hv), yf (fun _ => hv), yf (fun _ => hv), yf (fun _ => hi), yf (fun _ _ => hv)]
   rw [yo (x := v + 1) (by omega)]
   by_cases hg : FG c l v
   ·rw [if_neg (fun hc => (y8C h0 (by omega)).1 hc hg)]
    rcases y83 hs n (v + 1) (by omega) (by omega) (by omega) (k := k) with ⟨⟨q, q1, q2, q3⟩, h3⟩ | ⟨h3, h4⟩
    ·exact .inl ⟨⟨q, by omega, q2, q3⟩, h3⟩
    ·refine .inr ⟨fun q q1 q2 => ?_, h4⟩
     by_cases e : q = v
     ·rw [e]; exact hg
     ·exact h3 q (by omega) q2
   ·rw [if_pos ((y8C h0 (by omega)).2 hg)]
    exact .inl ⟨⟨v, Int.le_refl _, h, hg⟩, rfl⟩
  ·rw [if_neg (by simpa using h)]
   exact .inr ⟨fun q h1 h2 => by omega, rfl⟩
theorem y8J {c : Cf} {l : List Snt} : ∃ r, y4i c l = some r ∧ (r = true ↔ FRm c 4000 l) := by
 unfold y4i
 by_cases h1 : ((l.length : Nat) : Int) > 4000
 ·rw [if_pos (decide_eq_true h1)]
  refine ⟨false, rfl, ?_⟩
  simp only [Bool.false_eq_true, false_iff]
  exact fun hc => by have := hc.len; omega
 ·rw [if_neg (by rw [decide_eq_true_eq]; exact h1)]
  refine y43 (P := fun o => ∃ r, o = some r ∧ (r = true ↔ FRm c 4000 l)) fun k hk => ?_
  rcases y83 (c := c) (l := l) (k := k) (by omega) yw 0 (by omega) (by omega) (by rw [y1k]; omega) with ⟨⟨q, q1, q2, q3⟩, h3⟩ | ⟨h3, h4⟩
  ·refine ⟨false, h3, ?_⟩
   simp only [Bool.false_eq_true, false_iff]
   exact fun hc => q3 (hc.each q q1 q2)
  ·exact ⟨true, h4.trans hk, by simp; exact ⟨fun q a b => h3 q a b, by omega⟩⟩
end Go.Proofs.Ytinchjigeakocaa
