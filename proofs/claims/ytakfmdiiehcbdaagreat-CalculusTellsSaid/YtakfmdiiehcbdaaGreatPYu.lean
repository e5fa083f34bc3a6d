/- A part of this claim's proof: models of functions, walks, plain laws. No conditions. -/
import Derived.Test.YtakfmdiiehcbdaaGreatPYt
namespace Go.Proofs.YtakfmdiiehcbdaaGreat
open Go Go.RowKit Sep
set_option linter.all false
/-! ### Insert -/
theorem yas {l : List R} {x : R} {k : Int → Option (List R)} (hl : ∀ v ∈ l, V v = true) (hx : V x = true) (hs : (l.length : Int) ≤ 3000000) :
  ∀ (n : Nat) (a : Int), 0 ≤ a → a ≤ l.length → a < n → (∀ q : Int, a ≤ q → q < l.length → val x < val (nth l q)) →
   ∃ a' : Int, y26 l x k n a = k a' ∧ 0 ≤ a' ∧ a' ≤ l.length ∧ (∀ q : Int, a' ≤ q → q < l.length → val x < val (nth l q)) ∧ (0 < a' → val (nth l (a' - 1)) ≤ val x)
 | 0, a, h0, h1, h2, h3 => by omega
 | n + 1, a, h0, h1, h2, h3 => by
  rw [y26]
  by_cases h : a > 0
  ·rw [if_pos (decide_eq_true h), yq (by omega), ym (by omega)]
   have hm := y1j (l := l) (i := a - 1) (by omega) (by omega)
   have c1 := y7U (hl _ hm) hx
   refine (show ∀ y, y = yE (nth l (a - 1)) x → (∃ a' : Int, ((y.bind fun x => some (decide (x > 0))).bind fun b => if b then y26 l x k n (a - 1) else k a) = k a' ∧ 0 ≤ a' ∧ a' ≤ l.length ∧ (∀ q : Int, a' ≤ q → q < l.length → val x < val (nth l q)) ∧ (0 < a' → val (nth l (a' - 1)) ≤ val x)) → _ from fun y hy h => by rw [hy] at h; exact h) _ c1.symm ?_
   rw [Option.bind_some, Option.bind_some]
   by_cases hlt : val x < val (nth l (a - 1))
   ·rw [if_pos (decide_eq_true (y8Y.2 hlt))]
    refine yas hl hx hs n (a - 1) (by omega) (by omega) (by omega) fun q hq hq2 => ?_
    by_cases e : q = a - 1
    ·rw [e]; exact hlt
    ·exact h3 q (by omega) hq2
   ·rw [if_neg (fun h => hlt (y8Y.1 (of_decide_eq_true h)))]
    exact ⟨a, rfl, h0, h1, h3, fun _ => Rat.not_lt.1 hlt⟩
  ·rw [if_neg (by simpa using h), Option.bind_some, if_neg Bool.false_ne_true]
   exact ⟨a, rfl, h0, h1, h3, fun h' => absurd h' h⟩
theorem mem_nthR {c : List R} {v : R} : v ∈ c ↔ ∃ q : Int, 0 ≤ q ∧ q < c.length ∧ nth c q = v := by
 constructor
 ·intro h
  obtain ⟨i, hi, rfl⟩ := List.mem_iff_getElem.1 h
  exact ⟨i, by omega, by omega, (y1I (by omega) (by omega)).symm⟩
 ·rintro ⟨q, h0, h1, rfl⟩
  exact y1j h0 h1
theorem ycy {c : List R} {v : R} {m : Int} (h0 : 0 ≤ m) (hm : m ≤ c.length) (h : v ∈ c.take m.toNat) : ∃ q : Int, 0 ≤ q ∧ q < m ∧ nth c q = v := by
 obtain ⟨q, hq, hq2, e⟩ := mem_nthR.1 h
 rw [List.length_take] at hq2
 refine ⟨q, hq, by omega, ?_⟩
 rw [← e, ← y1I (l := c) hq (by omega), ← y1I (l := c.take m.toNat) hq (by rw [List.length_take]; omega), List.getElem_take]
theorem Inc.insert {l : List R} {x : R} {a : Int} (hl : Inc l) (h0 : 0 ≤ a) (h1 : a ≤ l.length) (h2 : ∀ q : Int, a ≤ q → q < l.length → val x < val (nth l q)) (h3 : 0 < a → val (nth l (a - 1)) < val x) :
  Inc (l.take a.toNat ++ [x] ++ l.drop a.toNat) := by
 have hlo : ∀ b ∈ l.take a.toNat, val b < val x := by
  intro b hb
  obtain ⟨q, hq, hqa, rfl⟩ := ycy h0 h1 hb
  by_cases e : q = a - 1
  ·rw [e]; exact h3 (by omega)
  ·have h5 := List.pairwise_iff_getElem.1 hl q.toNat (a - 1).toNat (by omega) (by omega) (by omega)
   rw [y1I (by omega) (by omega), y1I (by omega) (by omega)] at h5
   have := h3 (by omega)
   grind
 have hhi : ∀ b ∈ l.drop a.toNat, val x < val b := by
  intro b hb
  obtain ⟨i, hi, rfl⟩ := List.mem_iff_getElem.1 hb
  rw [List.length_drop] at hi
  have h5 := h2 (a + i) (by omega) (by omega)
  rw [List.getElem_drop]
  have e : nth l (a + i) = l[a.toNat + i] := by
   rw [← y1I (by omega) (by omega)]
   congr 1; omega
  rwa [e] at h5
 unfold Inc
 rw [List.pairwise_append, List.pairwise_append]
 refine ⟨⟨List.Pairwise.sublist (List.take_sublist _ _) hl, by simp, fun u hu w hw => ?_⟩, List.Pairwise.sublist (List.drop_sublist _ _) hl, fun u hu w hw => ?_⟩
 ·obtain rfl := List.mem_singleton.1 hw
  exact hlo u hu
 ·have hw' := hhi w hw
  rcases List.mem_append.1 hu with hu | hu
  ·have hu' := hlo u hu
   grind
  ·obtain rfl := List.mem_singleton.1 hu
   exact hw'
def IL (l : List R) (P : R → Prop) : Prop := Inc l ∧ (∀ v ∈ l, V v = true) ∧ ∀ v, v ∈ l ↔ P v
theorem yc8 {l : List R} {P : R → Prop} {x : R} (hl : IL l P) (hx : V x = true) (hs : (l.length : Int) ≤ 3000000) : ∃ r, y3v l x = some r ∧ IL r (fun v => P v ∨ v = x) ∧ r.length ≤ l.length + 1 := by
 obtain ⟨hi, hV, hP⟩ := hl
 unfold y3v
 refine y2p (P := fun o => ∃ r, o = some r ∧ IL r (fun v => P v ∨ v = x) ∧ r.length ≤ l.length + 1) fun k hk => ?_
 obtain ⟨a, e, h0, h1, h2, h3⟩ := yas (k := k) hV hx hs yu l.length (by omega) (by omega) (by rw [yU]; omega) (fun q h1 h2 => by omega)
 rw [e, hk, ym (fun h => by have h := of_decide_eq_true h; rw [yq (by omega)]; omega)]
 by_cases hc : a > 0 ∧ nth l (a - 1) = x
 ·have : (decide (a > 0) && decide ((⟨(nth l (i64 (a - 1))).fN, (nth l (i64 (a - 1))).fD⟩ : R) = x)) = true := by
   rw [yq (by omega), Bool.and_eq_true]
   exact ⟨decide_eq_true hc.1, decide_eq_true hc.2⟩
  rw [if_pos this]
  refine ⟨l, rfl, ⟨hi, hV, fun v => ?_⟩, by omega⟩
  rw [hP]
  constructor
  ·exact .inl
  ·rintro (h | rfl)
   ·exact h
   ·rw [← hP, ← hc.2]; exact y1j (by omega) (by omega)
 ·have : ¬ (decide (a > 0) && decide ((⟨(nth l (i64 (a - 1))).fN, (nth l (i64 (a - 1))).fD⟩ : R) = x)) = true := by
   intro h
   rw [Bool.and_eq_true] at h
   have h1' := of_decide_eq_true h.1
   have h2' := of_decide_eq_true h.2
   rw [yq (by omega)] at h2'
   exact hc ⟨h1', h2'⟩
  rw [if_neg this]
  have lt : (l.take a.toNat).length = a.toNat := by rw [List.length_take]; omega
  have ld : (l.drop a.toNat).length = l.length - a.toNat := List.length_drop
  rw [ym (by omega), ym (by simp only [List.length_append, List.length_nil]; omega), ym (by simp only [List.length_append, List.length_nil, List.length_cons]; omega), ym (by omega), ym (by simp only [List.length_append, List.length_nil, List.length_cons]; omega)]
  rw [List.nil_append]
  have hlt : 0 < a → val (nth l (a - 1)) < val x := by
   intro h
   rcases y7f (h3 h) with h4 | h4
   ·exact h4
   ·exact absurd ⟨h, y8X (hV _ (y1j (by omega) (by omega))) hx h4⟩ hc
  have hto : ∀ v, v ∈ l ↔ v ∈ l.take a.toNat ∨ v ∈ l.drop a.toNat := fun v => by rw [← List.mem_append, List.take_append_drop]
  have hmem : ∀ v, v ∈ l.take a.toNat ++ [x] ++ l.drop a.toNat ↔ v ∈ l ∨ v = x := by
   intro v
   rw [List.mem_append, List.mem_append, List.mem_singleton, hto]
   constructor
   ·rintro ((h | h) | h)
    ·exact .inl (.inl h)
    ·exact .inr h
    ·exact .inl (.inr h)
   ·rintro ((h | h) | h)
    ·exact .inl (.inl h)
    ·exact .inr h
    ·exact .inl (.inr h)
  refine ⟨_, rfl, ⟨hi.insert h0 h1 h2 hlt, fun v hv => ?_, fun v => ?_⟩, ?_⟩
  ·rcases (hmem v).1 hv with h | rfl
   ·exact hV v h
   ·exact hx
  ·rw [hmem, hP]
  ·simp only [List.length_append, List.length_cons, List.length_nil]; omega
theorem IL.congr {l : List R} {P Q : R → Prop} (h : IL l P) (hq : ∀ v, P v ↔ Q v) : IL l Q := ⟨h.1, h.2.1, fun v => (h.2.2 v).trans (hq v)⟩
/-! ### Breaks -/
theorem rbr4 {x : List B} {i : Int} {k : List R → Option (List R × Int)} (hx : ∀ b ∈ x, GB b = true) (hsort : x.Pairwise fun x y => bq x < bq y ∧ rq y < rq x) (hi : 0 ≤ i ∧ i < x.length) (hs : (x.length : Int) ≤ 1000) :
  ∀ (n : Nat) (o : List R) (P : R → Prop) (v : Int), i < v → v ≤ x.length → x.length < n + v → (o.length : Int) ≤ 2000 * i + v → IL o P →
   (∃ q : Int, v ≤ q ∧ q < x.length ∧ y4P (nth x i, nth x q) = false) ∧ y1H x i k n o v = some ([], 3) ∨
   (∀ q : Int, v ≤ q → q < x.length → y4P (nth x i, nth x q) = true) ∧ ∃ o', y1H x i k n o v = k o' ∧ IL o' (fun u => P u ∨ ∃ q : Int, v ≤ q ∧ q < x.length ∧ u = ofQ (bp (nth x i, nth x q))) ∧ (o'.length : Int) ≤ 2000 * i + x.length
 | 0, o, P, v, h0, h1, h2, h3, h4 => by omega
 | n + 1, o, P, v, h0, h1, h2, h3, h4 => by
  rw [y1H]
  by_cases h : v < x.length
  ·have cv : (0 : Int) ≤ v ∧ v < x.length := ⟨by omega, h⟩
   rw [if_pos (decide_eq_true h), ym cv, ym hi]
   have g1 := hx _ (y1j hi.1 hi.2); have g2 := hx _ (y1j cv.1 cv.2)
   have a1 := yac (y2I (y5H g2)) (y2I (y5H g1))
   have a2 := yac (y2I (y5s g1)) (y2I (y5s g2))
   have e1 : val (nth x v).fB - val (nth x i).fB = bpA (nth x i, nth x v) := rfl
   have e2 : val (nth x i).fR - val (nth x v).fR = bpD (nth x i, nth x v) := rfl
   rw [e1] at a1; rw [e2] at a2
   have hlt : bq (nth x i) < bq (nth x v) ∧ rq (nth x v) < rq (nth x i) := by
    have := List.pairwise_iff_getElem.1 hsort i.toNat v.toNat (by omega) (by omega) (by omega)
    rw [y1I (by omega) (by omega), y1I (by omega) (by omega)] at this
    exact this
   have hpos : 0 < bpD (nth x i, nth x v) := by unfold bpD; grind
   have hbad : y4P (nth x i, nth x v) = false → (∃ q : Int, v ≤ q ∧ q < x.length ∧ y4P (nth x i, nth x q) = false) := fun hb => ⟨v, Int.le_refl _, h, hb⟩
   refine (show ∀ z, z = yB 1 (nth x v).fB (nth x i).fB → ((∃ q : Int, v ≤ q ∧ q < x.length ∧ y4P (nth x i, nth x q) = false) ∧ (z.bind fun zgA => chk ((0 : Int) ≤ i ∧ i < ((x.length : Nat) : Int)) (chk ((0 : Int) ≤ v ∧ v < ((x.length : Nat) : Int)) ((yB 1 (nth x i).fR (nth x v).fR).bind fun zgB => if (decide (zgA.2 ≠ 0)) || (decide (zgB.2 ≠ 0)) then some (([] : List R), (3 : Int)) else (yB 3 zgA.1 zgB.1).bind fun zgC => if decide (zgC.2 ≠ 0) then some ([], 3) else (y3v o zgC.1).bind fun zpF => y1H x i k n zpF (i64 (v + 1))))) = some ([], 3) ∨
    (∀ q : Int, v ≤ q → q < x.length → y4P (nth x i, nth x q) = true) ∧ ∃ o', (z.bind fun zgA => chk ((0 : Int) ≤ i ∧ i < ((x.length : Nat) : Int)) (chk ((0 : Int) ≤ v ∧ v < ((x.length : Nat) : Int)) ((yB 1 (nth x i).fR (nth x v).fR).bind fun zgB => if (decide (zgA.2 ≠ 0)) || (decide (zgB.2 ≠ 0)) then some (([] : List R), (3 : Int)) else (yB 3 zgA.1 zgB.1).bind fun zgC => if decide (zgC.2 ≠ 0) then some ([], 3) else (y3v o zgC.1).bind fun zpF => y1H x i k n zpF (i64 (v + 1))))) = k o' ∧ IL o' (fun u => P u ∨ ∃ q : Int, v ≤ q ∧ q < x.length ∧ u = ofQ (bp (nth x i, nth x q))) ∧ (o'.length : Int) ≤ 2000 * i + x.length) → _ from fun z hz h => by rw [hz] at h; exact h) _ a1.symm ?_
   rw [Option.bind_some, ym hi, ym cv, a2, Option.bind_some]
   have hbf : y4P (nth x i, nth x v) = (fits (bpA (nth x i, nth x v)) && fits (bpD (nth x i, nth x v)) && fits (bp (nth x i, nth x v))) := rfl
   cases f1 : fits (bpA (nth x i, nth x v)) with
   | false =>
    left
    refine ⟨hbad (by rw [hbf, f1]; rfl), ?_⟩
    unfold mk; rw [f1]; simp
   | true =>
    cases f2 : fits (bpD (nth x i, nth x v)) with
    | false =>
     left
     refine ⟨hbad (by rw [hbf, f1, f2]; rfl), ?_⟩
     unfold mk; rw [f2]; simp
    | true =>
     rw [y6k f1, y6k f2, if_neg (by simp)]
     have hn : (ofQ (bpD (nth x i, nth x v))).fN ≠ 0 := by
      intro h0
      have h1 : (bpD (nth x i, nth x v)).num = 0 := h0
      rw [Rat.num_eq_zero.1 h1] at hpos
      exact absurd hpos (by decide)
     have a3 := ybP (y5i f1) (y5i f2) hn
     rw [y4d, y4d] at a3
     have e3 : bpA (nth x i, nth x v) / bpD (nth x i, nth x v) = bp (nth x i, nth x v) := rfl
     rw [e3] at a3
     simp only []
     rw [a3, Option.bind_some]
     cases f3 : fits (bp (nth x i, nth x v)) with
     | false =>
      left
      refine ⟨hbad (by rw [hbf, f1, f2, f3]; rfl), ?_⟩
      unfold mk; rw [f3]; simp
     | true =>
      have hok : y4P (nth x i, nth x v) = true := by rw [hbf, f1, f2, f3]; rfl
      rw [y6k f3, if_neg (by simp)]
      simp only []
      obtain ⟨r, er, hr, hrl⟩ := yc8 h4 (y5i f3) (by omega)
      rw [er, Option.bind_some, yq (by omega)]
      rcases rbr4 (k := k) hx hsort hi hs n r _ (v + 1) (by omega) (by omega) (by omega) (by omega) hr with ⟨⟨q, q1, q2, q3⟩, h6⟩ | ⟨h5, o', h6, h7, h8⟩
      ·exact .inl ⟨⟨q, by omega, q2, q3⟩, h6⟩
      ·refine .inr ⟨fun q q1 q2 => ?_, o', h6, h7.congr fun u => ?_, h8⟩
       ·by_cases e : q = v
        ·rw [e]; exact hok
        ·exact h5 q (by omega) q2
       ·constructor
        ·rintro ((h | rfl) | ⟨q, q1, q2, q3⟩)
         ·exact .inl h
         ·exact .inr ⟨v, Int.le_refl _, h, rfl⟩
         ·exact .inr ⟨q, by omega, q2, q3⟩
        ·rintro (h | ⟨q, q1, q2, q3⟩)
         ·exact .inl (.inl h)
         ·by_cases e : q = v
          ·subst e; exact .inl (.inr q3)
          ·exact .inr ⟨q, by omega, q2, q3⟩
  ·rw [if_neg (by simpa using h)]
   refine .inr ⟨fun q h1 h2 => by omega, o, rfl, h4.congr fun u => ?_, by omega⟩
   constructor
   ·exact .inl
   ·rintro (h | ⟨q, q1, q2, _⟩)
    ·exact h
    ·omega
theorem rbr3 {x : List B} {k : List R → Option (List R × Int)} (hx : ∀ b ∈ x, GB b = true) (hsort : x.Pairwise fun x y => bq x < bq y ∧ rq y < rq x) (hs : (x.length : Int) ≤ 1000) :
  ∀ (n : Nat) (o : List R) (P : R → Prop) (v : Int), 0 ≤ v → v ≤ x.length → x.length < n + v → (o.length : Int) ≤ 2000 * v → IL o P →
   (∃ i q : Int, v ≤ i ∧ i < q ∧ q < x.length ∧ y4P (nth x i, nth x q) = false) ∧ y27 x k n o v = some ([], 3) ∨
   (∀ i q : Int, v ≤ i → i < q → q < x.length → y4P (nth x i, nth x q) = true) ∧ ∃ o', y27 x k n o v = k o' ∧ IL o' (fun u => P u ∨ ∃ i q : Int, v ≤ i ∧ i < q ∧ q < x.length ∧ u = ofQ (bp (nth x i, nth x q)))
 | 0, o, P, v, h0, h1, h2, h3, h4 => by omega
 | n + 1, o, P, v, h0, h1, h2, h3, h4 => by
  rw [y27]
  by_cases h : v < x.length
  ·rw [if_pos (decide_eq_true h)]
   refine y2p (P := fun z => (∃ i q : Int, v ≤ i ∧ i < q ∧ q < x.length ∧ y4P (nth x i, nth x q) = false) ∧ z = some ([], 3) ∨ (∀ i q : Int, v ≤ i → i < q → q < x.length → y4P (nth x i, nth x q) = true) ∧ ∃ o', z = k o' ∧ IL o' (fun u => P u ∨ ∃ i q : Int, v ≤ i ∧ i < q ∧ q < x.length ∧ u = ofQ (bp (nth x i, nth x q)))) fun k1 hk1 => ?_
   refine y2p (P := fun z => (∃ i q : Int, v ≤ i ∧ i < q ∧ q < x.length ∧ y4P (nth x i, nth x q) = false) ∧ z = some ([], 3) ∨ (∀ i q : Int, v ≤ i → i < q → q < x.length → y4P (nth x i, nth x q) = true) ∧ ∃ o', z = k o' ∧ IL o' (fun u => P u ∨ ∃ i q : Int, v ≤ i ∧ i < q ∧ q < x.length ∧ u = ofQ (bp (nth x i, nth x q)))) fun k2 hk2 => ?_
   rw [yq (by omega)]
   rcases rbr4 (k := k2) hx hsort ⟨h0, h⟩ hs yu o P (v + 1) (by omega) (by omega) (by rw [yU]; omega) (by omega) h4 with ⟨⟨q, q1, q2, q3⟩, h6⟩ | ⟨h5, o', h6, h7, h8⟩
   ·exact .inl ⟨⟨v, q, Int.le_refl _, by omega, q2, q3⟩, h6⟩
   ·rw [h6, hk2, hk1, yq (by omega)]
    rcases rbr3 (k := k) hx hsort hs n o' _ (v + 1) (by omega) (by omega) (by omega) (by omega) h7 with ⟨⟨i, q, q1, q2, q3, q4⟩, h9⟩ | ⟨h9, o2, h10, h11⟩
    ·exact .inl ⟨⟨i, q, by omega, q2, q3, q4⟩, h9⟩
    ·refine .inr ⟨fun i q q1 q2 q3 => ?_, o2, h10, h11.congr fun u => ?_⟩
     ·by_cases e : i = v
      ·rw [e]; exact h5 q (by omega) q3
      ·exact h9 i q (by omega) q2 q3
     ·constructor
      ·rintro ((h | ⟨q, q1, q2, q3⟩) | ⟨i, q, q1, q2, q3, q4⟩)
       ·exact .inl h
       ·exact .inr ⟨v, q, Int.le_refl _, by omega, q2, q3⟩
       ·exact .inr ⟨i, q, by omega, q2, q3, q4⟩
      ·rintro (h | ⟨i, q, q1, q2, q3, q4⟩)
       ·exact .inl (.inl h)
       ·by_cases e : i = v
        ·subst e; exact .inl (.inr ⟨q, by omega, q3, q4⟩)
        ·exact .inr ⟨i, q, by omega, q2, q3, q4⟩
  ·rw [if_neg (by simpa using h)]
   refine .inr ⟨fun i q h1 h2 h3 => by omega, o, rfl, h4.congr fun u => ?_⟩
   constructor
   ·exact .inl
   ·rintro (h | ⟨i, q, q1, q2, q3, _⟩)
    ·exact h
    ·omega
theorem yc9 (c : List B) : y3U c = y1k c := by
 cases hc : VC c with
 | false =>
  rw [y9S hc]
  unfold y3U
  rw [y7l, hc]; rfl
 | true =>
  have la := y7g hc; have na := yb9 c
  have ga := ybd (y55 hc)
  have hB := yaq hc
  have hord : ∀ i q : Int, 0 ≤ i → i < q → q < (yR c).length → bq (nth (yR c) i) < bq (nth (yR c) q) := by
   intro i q h0 h1 h2
   have := List.pairwise_iff_getElem.1 (y5w (c := c)) i.toNat q.toNat (by omega) (by omega) (by omega)
   rw [y1I (by omega) (by omega), y1I (by omega) (by omega)] at this
   exact this.1
  have hidx : ∀ p : B × B, p.1 ∈ yR c → p.2 ∈ yR c → bq p.1 < bq p.2 → ∃ i q : Int, 0 ≤ i ∧ i < q ∧ q < (yR c).length ∧ p = (nth (yR c) i, nth (yR c) q) := by
   intro p h1 h2 h3
   obtain ⟨i, hi, hi2, e1⟩ := y91.1 h1
   obtain ⟨q, hq, hq2, e2⟩ := y91.1 h2
   have hiq : i < q := by
    rcases Int.lt_or_le i q with h | h
    ·exact h
    ·exfalso
     rw [← e1, ← e2] at h3
     by_cases e : q = i
     ·rw [e] at h3; grind
     ·have := hord q i hq (by omega) hi2; grind
   exact ⟨i, q, hi, hiq, hq2, by rw [e1, e2]⟩
  unfold y3U
  rw [y7l, hc, rnorm_eq (y55 hc) (by omega)]
  simp only [Option.bind_some, Bool.not_true, Bool.false_eq_true, if_false]
  refine y2p (P := fun o => o = _) fun k hk => ?_
  rcases rbr3 (k := k) ga y5w (by omega) yu [] (fun _ => False) 0 (by omega) (by omega) (by rw [yU]; omega) (by simp) ⟨.nil, by simp, by simp⟩ with ⟨⟨i, q, q1, q2, q3, q4⟩, h6⟩ | ⟨h5, o', h6, h7⟩
  ·rw [h6]
   have hf : (y46 (yR c) (yR c)).all bok = false := by
    rw [Bool.eq_false_iff]
    intro hall
    have h1 := List.all_eq_true.1 hall (nth (yR c) i, nth (yR c) q) (y6l.2 ⟨y1j q1 (by omega), y1j (by omega) q3⟩)
    unfold bok at h1
    rw [q4] at h1
    have h2 : bl (nth (yR c) i, nth (yR c) q) = true := decide_eq_true (hord i q q1 q2 q3)
    rw [h2] at h1
    cases h1
   rw [hf, if_neg Bool.false_ne_true] at hB
   exact hB.symm
  ·rw [h6, hk]
   have hf : (y46 (yR c) (yR c)).all bok = true := by
    rw [List.all_eq_true]
    intro p hp
    have hm := y6l.1 hp
    unfold bok
    cases hb : bl p with
    | false => rfl
    | true =>
     obtain ⟨i, q, q1, q2, q3, rfl⟩ := hidx p hm.1 hm.2 (of_decide_eq_true hb)
     rw [h5 i q q1 q2 q3]; rfl
   rw [hf, if_pos rfl] at hB
   obtain ⟨r, er, hi, hr, _, _⟩ := hB
   rw [er]
   have : o' = r := h7.1.ext hi fun v => by
    rw [h7.2.2, hr]
    constructor
    ·rintro (h | ⟨i, q, q1, q2, q3, q4⟩)
     ·exact h.elim
     ·exact ⟨(nth (yR c) i, nth (yR c) q), ⟨y1j q1 (by omega), y1j (by omega) q3⟩, decide_eq_true (hord i q q1 q2 q3), q4⟩
    ·rintro ⟨p, hm, hb, e⟩
     obtain ⟨i, q, q1, q2, q3, rfl⟩ := hidx p hm.1 hm.2 (of_decide_eq_true hb)
     exact .inr ⟨i, q, q1, q2, q3, e⟩
   rw [this]
end Go.Proofs.YtakfmdiiehcbdaaGreat
