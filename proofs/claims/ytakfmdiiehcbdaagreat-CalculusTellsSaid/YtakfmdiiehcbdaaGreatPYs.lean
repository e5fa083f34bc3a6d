/- A part of this claim's proof: models of functions, walks, plain laws. No conditions. -/
import Derived.Test.YtakfmdiiehcbdaaGreatPYr
namespace Go.Proofs.YtakfmdiiehcbdaaGreat
open Go Go.RowKit Sep
set_option linter.all false
/-! ### the reference's normal form -/
def domR (c : List B) (i : Int) : Prop := nth c i ∈ c.take i.toNat ∨ ∃ a ∈ c, a ≠ nth c i ∧ le2 a (nth c i)
theorem yar {c : List B} {i : Int} {k : Option Bool} (hc : ∀ b ∈ c, GB b = true) (hs : (c.length : Int) ≤ 1000000) (hi : 0 ≤ i ∧ i < c.length) (hk : k = some false) :
  ∀ (n : Nat) (v : Int), 0 ≤ v → v ≤ c.length → c.length < n + v → (∀ q : Int, 0 ≤ q → q < v → ¬ ((nth c q = nth c i ∧ q < i) ∨ (nth c q ≠ nth c i ∧ le2 (nth c q) (nth c i)))) →
   ∃ r, y20 c i k n v = some r ∧ (r = true ↔ ∃ q : Int, 0 ≤ q ∧ q < c.length ∧ ((nth c q = nth c i ∧ q < i) ∨ (nth c q ≠ nth c i ∧ le2 (nth c q) (nth c i))))
 | 0, v, h0, h1, h2, h3 => by omega
 | n + 1, v, h0, h1, h2, h3 => by
  rw [y20]
  by_cases h : v < c.length
  ·rw [if_pos (decide_eq_true h)]
   refine y5R (P := fun o => ∃ r, o = some r ∧ (r = true ↔ ∃ q : Int, 0 ≤ q ∧ q < c.length ∧ ((nth c q = nth c i ∧ q < i) ∨ (nth c q ≠ nth c i ∧ le2 (nth c q) (nth c i))))) fun k1 hk1 => ?_
   rw [yq (by omega)] at hk1
   have hgo : ¬ ((nth c v = nth c i ∧ v < i) ∨ (nth c v ≠ nth c i ∧ le2 (nth c v) (nth c i))) → ∃ r, k1 = some r ∧ (r = true ↔ ∃ q : Int, 0 ≤ q ∧ q < c.length ∧ ((nth c q = nth c i ∧ q < i) ∨ (nth c q ≠ nth c i ∧ le2 (nth c q) (nth c i)))) := by
    intro hno
    rw [hk1]
    refine yar hc hs hi hk n (v + 1) (by omega) (by omega) (by omega) fun q hq hq2 => ?_
    by_cases e : q = v
    ·rw [e]; exact hno
    ·exact h3 q hq (by omega)
   have hyes : ((nth c v = nth c i ∧ v < i) ∨ (nth c v ≠ nth c i ∧ le2 (nth c v) (nth c i))) → ∃ r, (some true : Option Bool) = some r ∧ (r = true ↔ ∃ q : Int, 0 ≤ q ∧ q < c.length ∧ ((nth c q = nth c i ∧ q < i) ∨ (nth c q ≠ nth c i ∧ le2 (nth c q) (nth c i)))) := fun hy => ⟨true, rfl, by simp only [true_iff]; exact ⟨v, h0, h, hy⟩⟩
   have cv : (0 : Int) ≤ v ∧ v < c.length := ⟨h0, h⟩
   rw [ym cv, ym hi]
   have g1 := hc _ (y1j h0 h); have g2 := hc _ (y1j hi.1 hi.2)
   by_cases he : nth c v = nth c i
   ·rw [if_pos (decide_eq_true he)]
    by_cases hlt : v < i
    ·rw [if_pos (decide_eq_true hlt)]
     exact hyes (.inl ⟨he, hlt⟩)
    ·rw [if_neg (by simpa using hlt)]
     exact hgo fun h' => h'.elim (fun h => hlt h.2) (fun h => h.1 he)
   ·rw [if_neg (fun h => he (of_decide_eq_true h)), ym cv, ym hi]
    have c1 := rcmpb g1 g2; have c2 := rcmpr g1 g2
    have hcond : ((yE (nth c v).fB (nth c i).fB).bind fun x => (if decide (x ≤ 0) then chk ((0 : Int) ≤ v ∧ v < ((c.length : Nat) : Int)) (chk ((0 : Int) ≤ i ∧ i < ((c.length : Nat) : Int)) ((yE (nth c v).fR (nth c i).fR).bind fun x => some (decide (x ≤ 0)))) else some false)) = some (decide (le2 (nth c v) (nth c i))) := by
     rw [c1, c2, ym cv, ym hi, Option.bind_some, Option.bind_some]
     by_cases h1 : bq (nth c v) ≤ bq (nth c i)
     ·rw [if_pos (decide_eq_true (y5Q.2 h1))]
      congr 1
      rw [decide_eq_decide]
      exact ⟨fun h => ⟨h1, y5Q.1 h⟩, fun h => y5Q.2 h.2⟩
     ·rw [if_neg (fun h => h1 (y5Q.1 (of_decide_eq_true h)))]
      congr 1
      symm
      exact decide_eq_false fun h => h1 h.1
    have hst : ∀ o : Option Bool, ((yE (nth c v).fB (nth c i).fB).bind fun x => (if decide (x ≤ 0) then chk ((0 : Int) ≤ v ∧ v < ((c.length : Nat) : Int)) (chk ((0 : Int) ≤ i ∧ i < ((c.length : Nat) : Int)) ((yE (nth c v).fR (nth c i).fR).bind fun x => some (decide (x ≤ 0)))) else some false).bind fun b => if b then some true else o) = if le2 (nth c v) (nth c i) then some true else o := by
     intro o
     rw [← Option.bind_assoc, hcond, Option.bind_some]
     by_cases h : le2 (nth c v) (nth c i) <;> simp [h]
    have hs1 := hst k1
    by_cases hl : le2 (nth c v) (nth c i)
    ·rw [if_pos hl] at hs1
     obtain ⟨r, e, hr⟩ := hyes (.inr ⟨he, hl⟩)
     exact ⟨r, hs1.trans e, hr⟩
    ·rw [if_neg hl] at hs1
     obtain ⟨r, e, hr⟩ := hgo fun h' => h'.elim (fun h => he h.1) (fun h => hl h.2)
     exact ⟨r, hs1.trans e, hr⟩
  ·rw [if_neg (by simpa using h), hk]
   refine ⟨false, rfl, ?_⟩
   simp only [Bool.false_eq_true, false_iff]
   rintro ⟨q, hq, hq2, hq3⟩
   exact h3 q hq (by omega) hq3
theorem y91 {c : List B} {v : B} : v ∈ c ↔ ∃ q : Int, 0 ≤ q ∧ q < c.length ∧ nth c q = v := by
 constructor
 ·intro h
  obtain ⟨i, hi, rfl⟩ := List.mem_iff_getElem.1 h
  exact ⟨i, by omega, by omega, (y1I (by omega) (by omega)).symm⟩
 ·rintro ⟨q, h0, h1, rfl⟩
  exact y1j h0 h1
theorem ybi {c : List B} {v : B} {m : Int} (h0 : 0 ≤ m) (hm : m ≤ c.length) : v ∈ c.take m.toNat ↔ ∃ q : Int, 0 ≤ q ∧ q < m ∧ nth c q = v := by
 rw [y91]
 constructor
 ·rintro ⟨q, hq, hq2, e⟩
  rw [List.length_take] at hq2
  refine ⟨q, hq, by omega, ?_⟩
  rw [← e, ← y1I (l := c) hq (by omega), ← y1I (l := c.take m.toNat) hq (by rw [List.length_take]; omega), List.getElem_take]
 ·rintro ⟨q, hq, hq2, e⟩
  refine ⟨q, hq, by rw [List.length_take]; omega, ?_⟩
  rw [← e, ← y1I (l := c) hq (by omega), ← y1I (l := c.take m.toNat) hq (by rw [List.length_take]; omega), List.getElem_take]
theorem rdom_eq {c : List B} {i : Int} (hc : ∀ b ∈ c, GB b = true) (hs : (c.length : Int) ≤ 1000000) (hi : 0 ≤ i ∧ i < c.length) : ∃ r, y3N c i = some r ∧ (r = true ↔ domR c i) := by
 unfold y3N
 refine y5R (P := fun o => ∃ r, o = some r ∧ (r = true ↔ domR c i)) fun k hk => ?_
 obtain ⟨r, e, hr⟩ := yar hc hs hi hk yu 0 (by omega) (by omega) (by rw [yU]; omega) (fun q h1 h2 => by omega)
 refine ⟨r, e, hr.trans ?_⟩
 unfold domR
 rw [ybi hi.1 (by omega)]
 constructor
 ·rintro ⟨q, h0, h1, ⟨e, h2⟩ | ⟨e, h2⟩⟩
  ·exact .inl ⟨q, h0, h2, e⟩
  ·exact .inr ⟨_, y1j h0 h1, e, h2⟩
 ·rintro (⟨q, h0, h1, e⟩ | ⟨a, ha, h1, h2⟩)
  ·exact ⟨q, h0, by omega, .inl ⟨e, h1⟩⟩
  ·obtain ⟨q, h0, hq, rfl⟩ := y91.1 ha
   exact ⟨q, h0, hq, .inr ⟨h1, h2⟩⟩
theorem rnorm4 {o c : List B} {i : Int} {k : Int → Option (List B)} (ho : ∀ b ∈ o, GB b = true) (hi : 0 ≤ i ∧ i < c.length) (hg : GB (nth c i) = true) (hs : (o.length : Int) ≤ 1000000) :
  ∀ (n : Nat) (a : Int), 0 ≤ a → a ≤ o.length → a < n → (∀ q : Int, a ≤ q → q < o.length → bq (nth c i) < bq (nth o q)) →
   ∃ a' : Int, y2y o i c k n a = k a' ∧ 0 ≤ a' ∧ a' ≤ o.length ∧ (∀ q : Int, a' ≤ q → q < o.length → bq (nth c i) < bq (nth o q)) ∧ (0 < a' → bq (nth o (a' - 1)) ≤ bq (nth c i))
 | 0, a, h0, h1, h2, h3 => by omega
 | n + 1, a, h0, h1, h2, h3 => by
  rw [y2y]
  by_cases h : a > 0
  ·rw [if_pos (decide_eq_true h), yq (by omega), ym (by omega), ym hi]
   have hm := y1j (l := o) (i := a - 1) (by omega) (by omega)
   have c1 := rcmpb (ho _ hm) hg
   refine (show ∀ x, x = yE (nth o (a - 1)).fB (nth c i).fB → (∃ a' : Int, ((x.bind fun x => some (decide (x > 0))).bind fun b => if b then y2y o i c k n (a - 1) else k a) = k a' ∧ 0 ≤ a' ∧ a' ≤ o.length ∧ (∀ q : Int, a' ≤ q → q < o.length → bq (nth c i) < bq (nth o q)) ∧ (0 < a' → bq (nth o (a' - 1)) ≤ bq (nth c i))) → _ from fun x hx h => by rw [hx] at h; exact h) _ c1.symm ?_
   rw [Option.bind_some, Option.bind_some]
   by_cases hlt : bq (nth c i) < bq (nth o (a - 1))
   ·rw [if_pos (decide_eq_true (y8Y.2 hlt))]
    refine rnorm4 ho hi hg hs n (a - 1) (by omega) (by omega) (by omega) fun q hq hq2 => ?_
    by_cases e : q = a - 1
    ·rw [e]; exact hlt
    ·exact h3 q (by omega) hq2
   ·rw [if_neg (fun h => hlt (y8Y.1 (of_decide_eq_true h)))]
    exact ⟨a, rfl, h0, h1, h3, fun _ => Rat.not_lt.1 hlt⟩
  ·rw [if_neg (by simpa using h), Option.bind_some, if_neg Bool.false_ne_true]
   exact ⟨a, rfl, h0, h1, h3, fun h' => absurd h' h⟩
def Srt (l : List B) : Prop := l.Pairwise fun x y => bq x < bq y ∧ rq y < rq x
theorem und_lt {c : List B} {x y : B} (hx : x ∈ yR c) (hy : y ∈ yR c) (h : bq x < bq y) : rq y < rq x := y8J y5w hx hy h
theorem und_ne {c : List B} {x y : B} (hx : x ∈ yR c) (hy : y ∈ yR c) (h : bq x ≤ bq y) (hn : x ≠ y) : bq x < bq y := by
 rcases y7f h with h | h
 ·exact h
 ·exact absurd (yba (y7j.1 hx) (y7j.1 hy) h) hn
theorem Srt.insert {c o : List B} {x : B} {a : Int} (ho : Srt o) (hoc : ∀ b ∈ o, b ∈ yR c) (hx : x ∈ yR c) (hxo : x ∉ o) (h0 : 0 ≤ a) (h1 : a ≤ o.length) (h2 : ∀ q : Int, a ≤ q → q < o.length → bq x < bq (nth o q)) (h3 : 0 < a → bq (nth o (a - 1)) ≤ bq x) :
  Srt (o.take a.toNat ++ [x] ++ o.drop a.toNat) := by
 have hlo : ∀ b ∈ o.take a.toNat, bq b < bq x ∧ rq x < rq b := by
  intro b hb
  have hbo := List.mem_of_mem_take hb
  have hle : bq b ≤ bq x := by
   obtain ⟨q, hq, hqa, rfl⟩ := (ybi h0 h1).1 hb
   by_cases e : q = a - 1
   ·rw [e]; exact h3 (by omega)
   ·have h5 := List.pairwise_iff_getElem.1 ho q.toNat (a - 1).toNat (by omega) (by omega) (by omega)
    rw [y1I (by omega) (by omega), y1I (by omega) (by omega)] at h5
    exact Rat.le_of_lt (lt_of_lt_le' h5.1 (h3 (by omega)))
  have hlt := und_ne (hoc b hbo) hx hle (fun e => hxo (e ▸ hbo))
  exact ⟨hlt, und_lt (hoc b hbo) hx hlt⟩
 have hhi : ∀ b ∈ o.drop a.toNat, bq x < bq b ∧ rq b < rq x := by
  intro b hb
  have hbo := List.mem_of_mem_drop hb
  obtain ⟨i, hi, rfl⟩ := List.mem_iff_getElem.1 hb
  rw [List.length_drop] at hi
  have h5 := h2 (a + i) (by omega) (by omega)
  rw [List.getElem_drop] at hbo ⊢
  have e : nth o (a + i) = o[a.toNat + i] := by
   rw [← y1I (by omega) (by omega)]
   congr 1; omega
  rw [e] at h5
  exact ⟨h5, und_lt hx (hoc _ hbo) h5⟩
 unfold Srt
 rw [List.pairwise_append, List.pairwise_append]
 refine ⟨⟨List.Pairwise.sublist (List.take_sublist _ _) ho, by simp, fun u hu w hw => ?_⟩, List.Pairwise.sublist (List.drop_sublist _ _) ho, fun u hu w hw => ?_⟩
 ·obtain rfl := List.mem_singleton.1 hw
  exact hlo u hu
 ·have hw' := hhi w hw
  rcases List.mem_append.1 hu with hu | hu
  ·have hu' := hlo u hu
   exact ⟨by grind, by grind⟩
  ·obtain rfl := List.mem_singleton.1 hu
   exact hw'
where lt_of_lt_le' {a b c : Rat} (h : a < b) (h' : b ≤ c) : a < c := by grind
theorem ybj {c : List B} {k : List B → Option (List B)} (hc : ∀ b ∈ c, GB b = true) (hs : (c.length : Int) ≤ 100000) :
  ∀ (n : Nat) (o : List B) (i : Int), 0 ≤ i → i ≤ c.length → c.length < n + i → (o.length : Int) ≤ i → Srt o → (∀ v, v ∈ o ↔ v ∈ yR c ∧ v ∈ c.take i.toNat) → y2z c k n o i = k (yR c)
 | 0, o, i, h0, h1, h2, h3, h4, h5 => by omega
 | n + 1, o, i, h0, h1, h2, h3, h4, h5 => by
  rw [y2z]
  by_cases h : i < c.length
  ·rw [if_pos (decide_eq_true h)]
   refine y2p (P := fun o => o = _) fun k1 hk1 => ?_
   obtain ⟨r, e, hr⟩ := rdom_eq hc (by omega) ⟨h0, h⟩
   rw [e, Option.bind_some]
   have hm := y1j h0 h
   have tk := y4Y c h0 h
   have hin : nth c i ∈ yR c ↔ ¬ ∃ a ∈ c, a ≠ nth c i ∧ le2 a (nth c i) := by
    rw [yab]
    constructor
    ·rintro ⟨_, h1⟩ ⟨a, ha, h2, h3⟩
     exact h2 (h1 a ha h3)
    ·intro h1
     exact ⟨hm, fun a ha hle => Classical.byContradiction fun hne => h1 ⟨a, ha, hne, hle⟩⟩
   by_cases hd : domR c i
   ·rw [if_pos (hr.2 hd), hk1, yq (by omega)]
    refine ybj hc hs n o (i + 1) (by omega) (by omega) (by omega) (by omega) h4 fun v => ?_
    rw [h5, tk, List.mem_append, List.mem_singleton]
    constructor
    ·rintro ⟨h1, h2⟩; exact ⟨h1, .inl h2⟩
    ·rintro ⟨h1, h2 | rfl⟩
     ·exact ⟨h1, h2⟩
     ·rcases hd with hd | hd
      ·exact ⟨h1, hd⟩
      ·exact absurd hd (hin.1 h1)
   ·have hrf : r = false := by cases r with | false => rfl | true => exact absurd (hr.1 rfl) hd
    rw [hrf, if_neg Bool.false_ne_true]
    have hnin : nth c i ∉ c.take i.toNat := fun h => hd (.inl h)
    have hxN : nth c i ∈ yR c := hin.2 fun h => hd (.inr h)
    refine y2p (P := fun o => o = _) fun k2 hk2 => ?_
    obtain ⟨a, e4, ha0, ha1, ha2, ha3⟩ := rnorm4 (k := k2) (o := o) (fun b hb => hc b (ybe ((h5 b).1 hb).1)) ⟨h0, h⟩ (hc _ hm) (by omega) yu (o.length : Int) (by omega) (by omega) (by rw [yU]; omega) (fun q h1 h2 => by omega)
    rw [e4, hk2]
    have lt : (o.take a.toNat).length = a.toNat := by rw [List.length_take]; omega
    have ld : (o.drop a.toNat).length = o.length - a.toNat := List.length_drop
    rw [ym (by omega), ym (by simp only [List.length_append, List.length_nil]; omega), ym ⟨h0, h⟩]
    rw [ym (by simp only [List.length_append, List.length_nil, List.length_cons]; omega), ym (by omega), ym (by simp only [List.length_append, List.length_nil, List.length_cons]; omega)]
    rw [hk1, yq (by omega)]
    show y2z c k n (([] ++ o.take a.toNat) ++ [nth c i] ++ o.drop a.toNat) (i + 1) = _
    rw [List.nil_append]
    refine ybj hc hs n _ (i + 1) (by omega) (by omega) (by omega) (by simp only [List.length_append, List.length_cons, List.length_nil]; omega) ?_ fun v => ?_
    ·exact h4.insert (fun b hb => ((h5 b).1 hb).1) hxN (fun h => hnin ((h5 _).1 h).2) ha0 ha1 ha2 ha3
    ·have hto : v ∈ o ↔ v ∈ o.take a.toNat ∨ v ∈ o.drop a.toNat := by rw [← List.mem_append, List.take_append_drop]
     rw [List.mem_append, List.mem_append, List.mem_singleton, tk, List.mem_append, List.mem_singleton]
     constructor
     ·rintro ((h6 | rfl) | h6)
      ·have := (h5 v).1 (hto.2 (.inl h6)); exact ⟨this.1, .inl this.2⟩
      ·exact ⟨hxN, .inr rfl⟩
      ·have := (h5 v).1 (hto.2 (.inr h6)); exact ⟨this.1, .inl this.2⟩
     ·rintro ⟨h6, h7 | rfl⟩
      ·rcases hto.1 ((h5 v).2 ⟨h6, h7⟩) with h8 | h8
       ·exact .inl (.inl h8)
       ·exact .inr h8
      ·exact .inl (.inr rfl)
  ·rw [if_neg (by simpa using h)]
   congr 1
   refine y9R h4 y5w fun v => ?_
   rw [h5, List.take_of_length_le (by omega)]
   exact ⟨fun h => h.1, fun h => ⟨h, ybe h⟩⟩
theorem rnorm_eq {c : List B} (hc : ∀ b ∈ c, GB b = true) (hs : (c.length : Int) ≤ 100000) : y53 c = some (yR c) := by
 unfold y53
 refine y2p (P := fun o => o = _) fun k hk => ?_
 rw [ybj hc hs yu [] 0 (by omega) (by omega) (by rw [yU]; omega) (by simp) .nil (by simp), hk]
end Go.Proofs.YtakfmdiiehcbdaaGreat
