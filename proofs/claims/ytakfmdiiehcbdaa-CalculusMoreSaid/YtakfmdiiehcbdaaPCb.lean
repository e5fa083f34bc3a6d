/- A part of this claim's proof: models of functions, walks, plain laws. No conditions. -/
import Derived.Test.YtakfmdiiehcbdaaPCa
namespace Go.Proofs.Ytakfmdiiehcbdaa
open Go Go.RowKit Sep
set_option linter.all false
theorem y5v {a b : Int} (ha : a.natAbs ≤ 1073741824) (hb : b.natAbs ≤ 1073741824) : (a * b).natAbs ≤ 1152921504606846976 := by
 rw [Int.natAbs_mul]
 exact Nat.mul_le_mul ha hb
theorem y5w {x : R} (h : V x = true) : x.fN.natAbs ≤ 1073741824 ∧ x.fD.natAbs ≤ 1073741824 ∧ 1 ≤ x.fD := by
 simp only [V, decide_eq_true_eq] at h; omega
theorem D_ne {x y : R} (hx : V x = true) (hy : V y = true) : x.fD * y.fD ≠ 0 := Int.mul_ne_zero (by have := y5w hx; omega) (by have := y5w hy; omega)
theorem y7w {x y : R} (hx : V x = true) (hy : V y = true) : y1C x y = some (mk (val x + val y)) := by
 have bx := y5w hx; have b2 := y5w hy
 have h1 := y5v bx.1 b2.2.1; have h2 := y5v b2.1 bx.2.1; have h3 := y5v bx.2.1 b2.2.1
 unfold y1C y6v y5F
 rw [y2i, y2i, hx, hy]
 simp only [Option.bind_some, Bool.not_true, Bool.false_eq_true, if_false]
 rw [yr (x := x.fN * y.fD) (by omega), yr (x := y.fN * x.fD) (by omega), yr (by omega), yr (by omega), y4G (D_ne hx hy) (by omega)]
 rw [val, val, Rat.divInt_add_divInt _ _ (by omega) (by omega)]
 rfl
theorem y7x {x y : R} (hx : V x = true) (hy : V y = true) : y1y x y = some (mk (val x - val y)) := by
 have bx := y5w hx; have b2 := y5w hy
 have h1 := y5v bx.1 b2.2.1; have h2 := y5v b2.1 bx.2.1; have h3 := y5v bx.2.1 b2.2.1
 unfold y1y y72 y5D
 rw [y2i, y2i, hx, hy]
 simp only [Option.bind_some, Bool.not_true, Bool.false_eq_true, if_false]
 rw [yr (x := x.fN * y.fD) (by omega), yr (x := y.fN * x.fD) (by omega), yr (by omega), yr (by omega), y4G (D_ne hx hy) (by omega)]
 rw [val, val, Rat.divInt_sub_divInt _ _ (by omega) (by omega)]
 rfl
theorem mul_eq {x y : R} (hx : V x = true) (hy : V y = true) : y3h x y = some (mk (val x * val y)) := by
 have bx := y5w hx; have b2 := y5w hy
 have h1 := y5v bx.1 b2.1; have h3 := y5v bx.2.1 b2.2.1
 unfold y3h y6w y5H
 rw [y2i, y2i, hx, hy]
 simp only [Option.bind_some, Bool.not_true, Bool.false_eq_true, if_false]
 rw [yr (by omega), yr (by omega), y4G (D_ne hx hy) (by omega)]
 rw [val, val, Rat.divInt_mul_divInt]
 rfl
theorem y9B {x y : R} (hx : V x = true) (hy : V y = true) (h0 : y.fN ≠ 0) : y2I x y = some (mk (val x / val y)) := by
 have bx := y5w hx; have b2 := y5w hy
 have h1 := y5v bx.1 b2.2.1; have h3 := y5v bx.2.1 b2.1
 unfold y2I y6u y5E
 rw [y2i, y2i, hx, hy]
 simp only [Option.bind_some, Bool.not_true, Bool.false_or, decide_eq_true_eq, h0, if_false, Bool.false_eq_true]
 rw [yr (by omega), yr (by omega), y4G (Int.mul_ne_zero (by omega) h0) (by omega)]
 rw [val, val, Rat.div_def, Rat.inv_divInt, Rat.divInt_mul_divInt]
 rfl
def y2F (p q : Rat) : Int := if p < q then -1 else if q < p then 1 else 0
theorem lt_val {x y : R} (hx : V x = true) (hy : V y = true) : val x < val y ↔ x.fN * y.fD < y.fN * x.fD := by
 rw [Rat.lt_iff, (y5J hx).1, (y5J hx).2, (y5J hy).1, (y5J hy).2]
theorem y3k {x y : R} (hx : V x = true) (hy : V y = true) : yQ x y = some (y2F (val x) (val y)) := by
 have bx := y5w hx; have b2 := y5w hy
 have h1 := y5v bx.1 b2.2.1; have h2 := y5v b2.1 bx.2.1
 unfold yQ y2F
 rw [y2i, y2i, hx, hy]
 simp only [Option.bind_some, Bool.not_true, Bool.false_eq_true, if_false, decide_eq_true_eq]
 rw [yr (x := x.fN * y.fD) (by omega), yr (x := y.fN * x.fD) (by omega)]
 simp only [lt_val hx hy, lt_val hy hx]
 by_cases h : x.fN * y.fD < y.fN * x.fD
 ·simp [h]
 ·by_cases h' : y.fN * x.fD < x.fN * y.fD <;> simp [h, h']
theorem y5T {p q : Rat} : y2F p q ≤ 0 ↔ p ≤ q := by unfold y2F; grind
theorem y4c {p q : Rat} : y2F p q < 0 ↔ p < q := by unfold y2F; grind
theorem y4H {p q : Rat} : 0 < y2F p q ↔ q < p := by unfold y2F; grind
theorem y8b {p q : Rat} (h : p ≤ q) : p < q ∨ p = q := by grind
theorem yaP (p : Rat) : y2F p p = 0 := by unfold y2F; simp [Rat.lt_irrefl]
/-! ### buckets -/
abbrev B := z1
def GR (x : R) : Bool := V x && decide (0 ≤ x.fN)
def GB (b : B) : Bool := GR b.fB && GR b.fR
def bq (b : B) : Rat := val b.fB
def rq (b : B) : Rat := val b.fR
theorem y2j {x : R} (h : GR x = true) : V x = true := by simp [GR] at h; exact h.1
theorem y8t {x : R} (h : GR x = true) : 0 ≤ val x := by
 have hv := y2j h
 simp [GR] at h
 rw [← Rat.num_nonneg, (y5J hv).1]; exact h.2
theorem GR_of {q : Rat} (h0 : 0 ≤ q) (hf : fits q = true) : GR (ofQ q) = true := by
 simp only [GR, y1G hf, Bool.true_and, decide_eq_true_eq]
 exact Rat.num_nonneg.2 h0
theorem y54 {b : B} (h : GB b = true) : GR b.fB = true := by simp [GB] at h; exact h.1
theorem y55 {b : B} (h : GB b = true) : GR b.fR = true := by simp [GB] at h; exact h.2
theorem yav {a b : B} (ha : GB a = true) (hb : GB b = true) (h1 : bq a = bq b) (h2 : rq a = rq b) : a = b := by
 have e1 := y7P (y2j (y54 ha)) (y2j (y54 hb)) h1
 have e2 := y7P (y2j (y55 ha)) (y2j (y55 hb)) h2
 cases a; cases b; simp at e1 e2; rw [e1, e2]
theorem y8O (x : R) : y2W x = some (GR x) := by unfold y2W GR; rw [y2i, Option.bind_some]
theorem yaQ (b : B) : y2M b = some (!GB b) := by
 unfold y2M GB
 rw [y8O, y8O]
 cases GR b.fB <;> simp
theorem y93 {s : List B} {f : B → Option Bool} {p : B → Bool} (hf : ∀ x ∈ s, f x = some (p x)) (hs : (s.length : Int) ≤ 4611686018427387000) : yZ s f = some (s.any p) :=
 y4n (y5A (L := fun k => yH s f k) (fun _ _ _ => rfl) hf hs)
theorem y9R {s : List B} {v : B} (hs : (s.length : Int) ≤ 4611686018427387000) : y1s s v = some (s.any fun x => decide (v = x)) :=
 y4n (y5A (L := fun k => yS s v k) (f := fun x => some (decide (v = x))) (fun _ _ _ => rfl) (fun _ _ => rfl) hs)
def VC (c : List B) : Bool := decide (1 ≤ c.length ∧ c.length ≤ 32) && c.all GB
theorem y4m (c : List B) : y2g c = some (VC c) := by
 unfold y2g VC
 by_cases h : 1 ≤ c.length ∧ c.length ≤ 32
 ·rw [if_pos (by simp; omega), y93 (p := fun b => !GB b) (fun x _ => yaQ x) (by omega)]
  simp only [Option.bind_some, h, and_self, decide_true, Bool.true_and]
  congr 1
  rw [List.all_eq_not_any_not]
 ·rw [if_neg (by simp; omega)]
  simp [h]
theorem y8u {c : List B} (h : VC c = true) : ∀ b ∈ c, GB b = true := by simp [VC] at h; exact h.2
theorem y8v {c : List B} (h : VC c = true) : 1 ≤ c.length ∧ c.length ≤ 32 := by simp [VC] at h; omega
def dom (a b : B) : Bool := decide (a ≠ b) && decide (bq a ≤ bq b) && decide (rq a ≤ rq b)
theorem y9C {a b : B} (ha : GB a = true) (hb : GB b = true) : y2Q a b = some (dom a b) := by
 unfold y2Q dom
 rw [y3k (y2j (y54 ha)) (y2j (y54 hb)), y3k (y2j (y55 ha)) (y2j (y55 hb))]
 have e1 : decide (y2F (val a.fB) (val b.fB) ≤ 0) = decide (bq a ≤ bq b) := decide_eq_decide.2 y5T
 have e2 : decide (y2F (val a.fR) (val b.fR) ≤ 0) = decide (rq a ≤ rq b) := decide_eq_decide.2 y5T
 by_cases hab : a ≠ b
 ·rw [if_pos (by simpa using hab), Option.bind_some, Option.bind_some, e1]
  by_cases h1 : bq a ≤ bq b
  ·rw [if_pos (by simpa using h1), Option.bind_some, e2]; simp [hab, h1]
  ·rw [if_neg (by simpa using h1), Option.bind_some]; simp [h1]
 ·rw [if_neg (by simpa using hab)]; simp [hab]
/-! ### the normal form -/
def y56 (c : List B) (out : List B) (v : B) : List B := if (!(out.any fun x => decide (v = x)) && !(c.any fun a => dom a v)) = true then out ++ [v] else out
theorem yaR {c : List B} {k : List B → Option (List B)} (hc : ∀ b ∈ c, GB b = true) (hs : (c.length : Int) ≤ 1000000) :
  ∀ (n : Nat) (out : List B) (i : Int), 0 ≤ i → i ≤ c.length → c.length - i < n → (out.length : Int) ≤ i → y2u c k n out i = k ((c.drop i.toNat).foldl (y56 c) out) := by
 intro n
 induction n with
 | zero => intro out i h0 h1 h2; omega
 | succ n ih =>
  intro out i h0 h1 h2 h3
  rw [y2u]
  by_cases h : i < c.length
  ·rw [if_pos (by simpa using h)]
   simp only [jp1]
   rw [yn ⟨h0, h⟩, y3c h0 h, List.foldl_cons]
   have hm := hc _ (y2A h0 h)
   have e1 := y9R (s := out) (v := nth c i) (by omega)
   have e2 := y93 (s := c) (f := fun y0 => y2U y0 (nth c i)) (p := fun a => dom a (nth c i)) (fun x hx => by unfold y2U; rw [y9C (hc x hx) hm]; rfl) (by omega)
   refine (congrArg (fun o => Option.bind o _) e1).trans ?_
   rw [Option.bind_some]
   have hlen : (out.length : Int) + 1 ≤ 1000000 := by omega
   cases hA : out.any fun x => decide (nth c i = x) with
   | true =>
    simp only [Bool.not_true, Bool.false_eq_true, if_false, Option.bind_some]
    rw [yr (by omega), ih out (i + 1) (by omega) (by omega) (by omega) (by omega)]
    congr 2
    unfold y56; simp [hA]
   | false =>
    simp only [Bool.not_false, if_true]
    refine (congrArg (fun o => Option.bind (Option.bind o _) _) e2).trans ?_
    simp only [Option.bind_some]
    cases hB : c.any fun a => dom a (nth c i) with
    | true =>
     simp only [Bool.not_true, Bool.false_eq_true, if_false]
     rw [yr (by omega), ih out (i + 1) (by omega) (by omega) (by omega) (by omega)]
     congr 2
     unfold y56; simp [hA, hB]
    | false =>
     simp only [Bool.not_false, if_true]
     rw [yn (by simp only [List.length_append, List.length_cons, List.length_nil]; omega), yr (by omega)]
     refine (ih _ (i + 1) (by omega) (by omega) (by omega) (by simp; omega)).trans ?_
     congr 2
     unfold y56; simp [hA, hB]
  ·rw [if_neg (by simpa using h), y3C h]; rfl
/-! sorting by a key -/
def y5K {α : Type} (key : α → Rat) (l : List α) : List α := y1o (fun x y => some (y2F (key x) (key y))) l
theorem y9S {α : Type} {p q : α → α → Option Int} {x : α} {l : List α} (h : ∀ y ∈ l, cby p x y = cby q x y) : y5a p x l = y5a q x l := by
 induction l with
 | nil => rfl
 | cons y l ih =>
  unfold y5a
  rw [h y (by simp), ih fun z hz => h z (by simp [hz])]
theorem y9D {α : Type} {p q : α → α → Option Int} {l : List α} (h : ∀ x ∈ l, ∀ y ∈ l, cby p x y = cby q x y) : y1o p l = y1o q l := by
 induction l with
 | nil => rfl
 | cons x l ih =>
  unfold y1o
  rw [ih fun a ha b hb => h a (by simp [ha]) b (by simp [hb])]
  exact y9S fun y hy => h x (by simp) y (by simp [(y3L q l).mem_iff.1 hy])
theorem y9T {α : Type} {key : α → Rat} (x : α) (l : List α) (h : l.Pairwise fun a b => key a ≤ key b) : (y5a (fun x y => some (y2F (key x) (key y))) x l).Pairwise fun a b => key a ≤ key b := by
 induction l with
 | nil => simp [y5a]
 | cons y l ih =>
  obtain ⟨h1, h2⟩ := List.pairwise_cons.1 h
  unfold y5a
  split
  ·rename_i hxy
   have hxy : key x ≤ key y := y5T.1 hxy
   refine List.pairwise_cons.2 ⟨fun z hz => ?_, h⟩
   rcases List.mem_cons.1 hz with rfl | hz
   ·exact hxy
   ·exact Rat.le_trans hxy (h1 z hz)
  ·rename_i hxy
   have hxy : key y ≤ key x := Rat.le_of_lt (Rat.not_le.1 fun h => hxy (y5T.2 h))
   refine List.pairwise_cons.2 ⟨fun z hz => ?_, ih h2⟩
   rcases List.mem_cons.1 ((y8l _ x l).mem_iff.1 hz) with rfl | hz
   ·exact hxy
   ·exact h1 z hz
theorem y6e {α : Type} (key : α → Rat) (l : List α) : (y5K key l).Pairwise fun a b => key a ≤ key b := by
 unfold y5K
 induction l with
 | nil => simp [y1o]
 | cons x l ih => exact y9T x _ ih
theorem y5L {α : Type} (key : α → Rat) (l : List α) : (y5K key l).Perm l := y3L _ l
theorem y9E {α : Type} [DecidableEq α] {key : α → Rat} {p : α → α → Option Int} {l : List α} (hp : ∀ x ∈ l, ∀ y ∈ l, p x y = some (y2F (key x) (key y))) (hi : ∀ x ∈ l, ∀ y ∈ l, key x = key y → x = y) :
  y1o p l = y5K key l ∧ ordB p (y1o p l) = true := by
 have hc : ∀ x ∈ l, ∀ y ∈ l, cby p x y = y2F (key x) (key y) := fun x hx y hy => by unfold cby; rw [hp x hx y hy]; rfl
 have e : y1o p l = y5K key l := y9D fun x hx y hy => by rw [hc x hx y hy]; rfl
 refine ⟨e, ?_⟩
 have hm : ∀ x ∈ y1o p l, x ∈ l := fun x hx => (y3L p l).mem_iff.1 hx
 have hs := y6e key l
 rw [← e] at hs
 simp only [ordB, Bool.and_eq_true, List.all_eq_true, Bool.not_eq_true', decide_eq_false_iff_not, y87]
 refine ⟨fun x hx => ⟨fun y hy => by rw [hp x (hm x hx) y (hm y hy)]; rfl, by rw [hc x (hm x hx) x (hm x hx), yaP]; omega⟩, ?_⟩
 refine List.Pairwise.imp_of_mem ?_ hs
 intro x y hx hy hxy
 rw [hc x (hm x hx) y (hm y hy), hc y (hm y hy) x (hm x hx), y4c, y4c]
 rcases y8b hxy with h | h
 ·exact .inr ⟨h, Rat.not_lt.2 hxy⟩
 ·exact .inl (hi x (hm x hx) y (hm y hy) h)
theorem y94 (n : Nat) (h : n < 4611686018427387904) : Go.Lib.bitLen n ≤ 62 := Go.Lib.bitLen_le n 62 (by omega) (by omega)
theorem sortB_eq {l : List B} {p : B → B → Option Int} {key : B → Rat} (hp : ∀ x ∈ l, ∀ y ∈ l, p x y = some (y2F (key x) (key y))) (hi : ∀ x ∈ l, ∀ y ∈ l, key x = key y → x = y) (hs : (l.length : Int) ≤ 1000000) :
  yT l p = some (y5K key l) := by
 obtain ⟨e, ho⟩ := y9E hp hi
 unfold yT y4R y2a
 rw [y6d (by omega), yn (by omega), Option.bind_some]
 have hb := y94 l.length (by omega)
 rw [Int.toNat_natCast, yn ⟨⟨rfl, rfl⟩, by omega, by omega, by omega⟩, yn ho, Option.bind_some, e]
theorem sortR_eq {l : List R} {p : R → R → Option Int} {key : R → Rat} (hp : ∀ x ∈ l, ∀ y ∈ l, p x y = some (y2F (key x) (key y))) (hi : ∀ x ∈ l, ∀ y ∈ l, key x = key y → x = y) (hs : (l.length : Int) ≤ 1000000) :
  y1l l p = some (y5K key l) := by
 obtain ⟨e, ho⟩ := y9E hp hi
 unfold y1l y4R y2p
 rw [y6d (by omega), yn (by omega), Option.bind_some]
 have hb := y94 l.length (by omega)
 rw [Int.toNat_natCast, yn ⟨⟨rfl, rfl⟩, by omega, by omega, by omega⟩, yn ho, Option.bind_some, e]
theorem y9F {c : List B} : ∀ (l out : List B) (v : B), v ∈ l.foldl (y56 c) out ↔ v ∈ out ∨ (v ∈ l ∧ (c.any fun a => dom a v) = false)
 | [], out, v => by simp
 | x :: l, out, v => by
  rw [List.foldl_cons, y9F l]
  unfold y56
  by_cases h1 : (out.any fun y => decide (x = y)) = true
  ·have hx : x ∈ out := by simpa using h1
   rw [if_neg (by simp [h1])]
   constructor
   ·rintro (h | h)
    ·exact .inl h
    ·exact .inr ⟨by simp [h.1], h.2⟩
   ·rintro (h | ⟨h, h'⟩)
    ·exact .inl h
    ·rcases List.mem_cons.1 h with rfl | h
     ·exact .inl hx
     ·exact .inr ⟨h, h'⟩
  ·by_cases h2 : (c.any fun a => dom a x) = true
   ·rw [if_neg (by simp [h2])]
    constructor
    ·rintro (h | h)
     ·exact .inl h
     ·exact .inr ⟨by simp [h.1], h.2⟩
    ·rintro (h | ⟨h, h'⟩)
     ·exact .inl h
     ·rcases List.mem_cons.1 h with rfl | h
      ·rw [h2] at h'; cases h'
      ·exact .inr ⟨h, h'⟩
   ·rw [if_pos (by simp [h1, h2])]
    simp only [List.mem_append, List.mem_singleton]
    constructor
    ·rintro ((h | rfl) | h)
     ·exact .inl h
     ·exact .inr ⟨by simp, by simpa using h2⟩
     ·exact .inr ⟨by simp [h.1], h.2⟩
    ·rintro (h | ⟨h, h'⟩)
     ·exact .inl (.inl h)
     ·rcases List.mem_cons.1 h with rfl | h
      ·exact .inl (.inr rfl)
      ·exact .inr ⟨h, h'⟩
theorem y8w {c : List B} : ∀ (l out : List B), out.Nodup → (l.foldl (y56 c) out).Nodup
 | [], out, h => h
 | x :: l, out, h => by
  rw [List.foldl_cons]
  apply y8w l
  unfold y56
  split
  ·rename_i h1
   simp only [Bool.and_eq_true, Bool.not_eq_true'] at h1
   have hx : x ∉ out := by have := h1.1; simp at this; exact fun hm => this x hm rfl
   rw [List.nodup_append]
   refine ⟨h, by simp, fun a ha b hb => ?_⟩
   simp at hb; subst hb
   intro e; subst e; exact hx ha
  ·exact h
theorem y8c {c : List B} : ∀ (l out : List B), (l.foldl (y56 c) out).length ≤ out.length + l.length
 | [], out => by simp
 | x :: l, out => by
  rw [List.foldl_cons]
  have := y8c (c := c) l (y56 c out x)
  have h : (y56 c out x).length ≤ out.length + 1 := by unfold y56; split <;> simp
  simp; omega
def nrm0 (c : List B) : List B := c.foldl (y56 c) []
def y1d (c : List B) : List B := y5K bq (nrm0 c)
theorem y6f {c : List B} {v : B} : v ∈ nrm0 c ↔ v ∈ c ∧ ∀ a ∈ c, dom a v = false := by
 unfold nrm0; rw [y9F]; simp
theorem y8d {c : List B} {v : B} : v ∈ y1d c ↔ v ∈ c ∧ ∀ a ∈ c, dom a v = false := by
 unfold y1d; rw [(y5L _ _).mem_iff, y6f]
theorem NORM_len (c : List B) : (y1d c).length ≤ c.length := by
 unfold y1d; rw [(y5L _ _).length_eq]
 have := y8c (c := c) c []
 simpa [nrm0] using this
theorem nd_inj {c : List B} {x y : B} (hx : x ∈ c ∧ ∀ a ∈ c, dom a x = false) (hy : y ∈ c ∧ ∀ a ∈ c, dom a y = false) (h : bq x = bq y) : x = y := by
 have h1 := hx.2 y hy.1
 have h2 := hy.2 x hx.1
 by_cases e : x = y
 ·exact e
 ·exfalso
  have e' : y ≠ x := fun h => e h.symm
  unfold dom at h1 h2
  rw [h] at h1 h2
  simp [e, e', Rat.le_refl] at h1 h2
  grind
theorem norm_eq {c : List B} (hc : ∀ b ∈ c, GB b = true) (hs : (c.length : Int) ≤ 1000000) : y40 c = some (y1d c) := by
 unfold y40
 simp only [jp1]
 rw [yaR hc hs ys [] 0 (by omega) (by omega) (by rw [y1V]; omega) (by simp)]
 show Option.bind (yT (nrm0 c) _) _ = _
 have hl : (nrm0 c).length ≤ c.length := by have := y8c (c := c) c []; simpa [nrm0] using this
 rw [sortB_eq (key := bq) (fun x hx y hy => ?_) (fun x hx y hy h => nd_inj (y6f.1 hx) (y6f.1 hy) h) (by omega)]
 ·rfl
 ·unfold y3u
  rw [y3k (y2j (y54 (hc x (y6f.1 hx).1))) (y2j (y54 (hc y (y6f.1 hy).1)))]; rfl
theorem y3O {c : List B} : (y1d c).Pairwise fun x y => bq x < bq y ∧ rq y < rq x := by
 have h := y6e bq (nrm0 c)
 have hn : (y1d c).Nodup := (y5L bq (nrm0 c)).nodup_iff.2 (y8w c [] (by simp))
 have h2 := List.Pairwise.and h hn
 refine List.Pairwise.imp_of_mem ?_ h2
 intro x y hx hy hxy
 have hx := y8d.1 hx; have hy := y8d.1 hy
 have hlt : bq x < bq y := by
  rcases y8b hxy.1 with h | h
  ·exact h
  ·exact absurd (nd_inj hx hy h) hxy.2
 refine ⟨hlt, ?_⟩
 have := hy.2 x hx.1
 unfold dom at this
 simp [hxy.2, hxy.1] at this
 grind
end Go.Proofs.Ytakfmdiiehcbdaa
