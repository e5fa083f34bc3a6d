/- A part of this claim's proof: models of functions, walks, plain laws. No conditions. -/
import Derived.Test.YtakfmdiiehcbdaaGreatPYa
namespace Go.Proofs.YtakfmdiiehcbdaaGreat
open Go Go.RowKit Sep
set_option linter.all false
theorem y45 {a b : Int} (ha : a.natAbs ≤ 1073741824) (hb : b.natAbs ≤ 1073741824) : (a * b).natAbs ≤ 1152921504606846976 := by
 rw [Int.natAbs_mul]
 exact Nat.mul_le_mul ha hb
theorem y4v {x : R} (h : V x = true) : x.fN.natAbs ≤ 1073741824 ∧ x.fD.natAbs ≤ 1073741824 ∧ 1 ≤ x.fD := by
 simp only [V, decide_eq_true_eq] at h; omega
theorem D_ne {x y : R} (hx : V x = true) (hy : V y = true) : x.fD * y.fD ≠ 0 := Int.mul_ne_zero (by have := y4v hx; omega) (by have := y4v hy; omega)
theorem y9N {x y : R} (hx : V x = true) (hy : V y = true) : y1o x y = some (mk (val x + val y)) := by
 have bx := y4v hx; have b2 := y4v hy
 have h1 := y45 bx.1 b2.2.1; have h2 := y45 b2.1 bx.2.1; have h3 := y45 bx.2.1 b2.2.1
 unfold y1o y5M y63
 rw [yQ, yQ, hx, hy]
 simp only [Option.bind_some, Bool.not_true, Bool.false_eq_true, if_false]
 rw [yq (x := x.fN * y.fD) (by omega), yq (x := y.fN * x.fD) (by omega), yq (by omega), yq (by omega), y5j (D_ne hx hy) (by omega)]
 rw [val, val, Rat.divInt_add_divInt _ _ (by omega) (by omega)]
 rfl
theorem y9O {x y : R} (hx : V x = true) (hy : V y = true) : y1v x y = some (mk (val x - val y)) := by
 have bx := y4v hx; have b2 := y4v hy
 have h1 := y45 bx.1 b2.2.1; have h2 := y45 b2.1 bx.2.1; have h3 := y45 bx.2.1 b2.2.1
 unfold y1v y6i y61
 rw [yQ, yQ, hx, hy]
 simp only [Option.bind_some, Bool.not_true, Bool.false_eq_true, if_false]
 rw [yq (x := x.fN * y.fD) (by omega), yq (x := y.fN * x.fD) (by omega), yq (by omega), yq (by omega), y5j (D_ne hx hy) (by omega)]
 rw [val, val, Rat.divInt_sub_divInt _ _ (by omega) (by omega)]
 rfl
theorem yb4 {x y : R} (hx : V x = true) (hy : V y = true) : y2X x y = some (mk (val x * val y)) := by
 have bx := y4v hx; have b2 := y4v hy
 have h1 := y45 bx.1 b2.1; have h3 := y45 bx.2.1 b2.2.1
 unfold y2X y5O y64
 rw [yQ, yQ, hx, hy]
 simp only [Option.bind_some, Bool.not_true, Bool.false_eq_true, if_false]
 rw [yq (by omega), yq (by omega), y5j (D_ne hx hy) (by omega)]
 rw [val, val, Rat.divInt_mul_divInt]
 rfl
theorem y9P {x y : R} (hx : V x = true) (hy : V y = true) (h0 : y.fN ≠ 0) : y2g x y = some (mk (val x / val y)) := by
 have bx := y4v hx; have b2 := y4v hy
 have h1 := y45 bx.1 b2.2.1; have h3 := y45 bx.2.1 b2.1
 unfold y2g y5L y62
 rw [yQ, yQ, hx, hy]
 simp only [Option.bind_some, Bool.not_true, Bool.false_or, decide_eq_true_eq, h0, if_false, Bool.false_eq_true]
 rw [yq (by omega), yq (by omega), y5j (Int.mul_ne_zero (by omega) h0) (by omega)]
 rw [val, val, Rat.div_def, Rat.inv_divInt, Rat.divInt_mul_divInt]
 rfl
def y3K (p q : Rat) : Int := if p < q then -1 else if q < p then 1 else 0
theorem lt_val {x y : R} (hx : V x = true) (hy : V y = true) : val x < val y ↔ x.fN * y.fD < y.fN * x.fD := by
 rw [Rat.lt_iff, (y8V hx).1, (y8V hx).2, (y8V hy).1, (y8V hy).2]
theorem y67 {x y : R} (hx : V x = true) (hy : V y = true) : yM x y = some (y3K (val x) (val y)) := by
 have bx := y4v hx; have b2 := y4v hy
 have h1 := y45 bx.1 b2.2.1; have h2 := y45 b2.1 bx.2.1
 unfold yM y3K
 rw [yQ, yQ, hx, hy]
 simp only [Option.bind_some, Bool.not_true, Bool.false_eq_true, if_false, decide_eq_true_eq]
 rw [yq (x := x.fN * y.fD) (by omega), yq (x := y.fN * x.fD) (by omega)]
 simp only [lt_val hx hy, lt_val hy hx]
 by_cases h : x.fN * y.fD < y.fN * x.fD
 ·simp [h]
 ·by_cases h' : y.fN * x.fD < x.fN * y.fD <;> simp [h, h']
theorem y5Q {p q : Rat} : y3K p q ≤ 0 ↔ p ≤ q := by unfold y3K; grind
theorem y3W {p q : Rat} : y3K p q < 0 ↔ p < q := by unfold y3K; grind
theorem y8Y {p q : Rat} : 0 < y3K p q ↔ q < p := by unfold y3K; grind
theorem y7f {p q : Rat} (h : p ≤ q) : p < q ∨ p = q := by grind
theorem ycs (p : Rat) : y3K p p = 0 := by unfold y3K; simp [Rat.lt_irrefl]
/-! ### buckets -/
abbrev B := z2
def GR (x : R) : Bool := V x && decide (0 ≤ x.fN)
def GB (b : B) : Bool := GR b.fB && GR b.fR
def bq (b : B) : Rat := val b.fB
def rq (b : B) : Rat := val b.fR
theorem y2I {x : R} (h : GR x = true) : V x = true := by simp [GR] at h; exact h.1
theorem GR_pos {x : R} (h : GR x = true) : 0 ≤ val x := by
 have hv := y2I h
 simp [GR] at h
 rw [← Rat.num_nonneg, (y8V hv).1]; exact h.2
theorem y5H {b : B} (h : GB b = true) : GR b.fB = true := by simp [GB] at h; exact h.1
theorem y5s {b : B} (h : GB b = true) : GR b.fR = true := by simp [GB] at h; exact h.2
theorem y8Z (x : R) : y3Y x = some (GR x) := by unfold y3Y GR; rw [yQ, Option.bind_some]
theorem yct (b : B) : y3C b = some (!GB b) := by
 unfold y3C GB
 rw [y8Z, y8Z]
 cases GR b.fB <;> simp
theorem yan {s : List B} {f : B → Option Bool} {p : B → Bool} (hf : ∀ x ∈ s, f x = some (p x)) (hs : (s.length : Int) ≤ 4611686018427387000) : y16 s f = some (s.any p) :=
 y8n (y9D (L := fun k => yT s f k) (fun _ _ _ => rfl) hf hs)
theorem ybr {s : List B} {v : B} (hs : (s.length : Int) ≤ 4611686018427387000) : y1F s v = some (s.any fun x => decide (v = x)) :=
 y8n (y9D (L := fun k => yZ s v k) (f := fun x => some (decide (v = x))) (fun _ _ _ => rfl) (fun _ _ => rfl) hs)
def VC (c : List B) : Bool := decide (1 ≤ c.length ∧ c.length ≤ 32) && c.all GB
theorem y4k (c : List B) : y2K c = some (VC c) := by
 unfold y2K VC
 by_cases h : 1 ≤ c.length ∧ c.length ≤ 32
 ·rw [if_pos (by simp; omega), yan (p := fun b => !GB b) (fun x _ => yct x) (by omega)]
  simp only [Option.bind_some, h, and_self, decide_true, Bool.true_and]
  congr 1
  rw [List.all_eq_not_any_not]
 ·rw [if_neg (by simp; omega)]
  simp [h]
theorem y55 {c : List B} (h : VC c = true) : ∀ b ∈ c, GB b = true := by simp [VC] at h; exact h.2
theorem y7g {c : List B} (h : VC c = true) : 1 ≤ c.length ∧ c.length ≤ 32 := by simp [VC] at h; omega
def dom (a b : B) : Bool := decide (a ≠ b) && decide (bq a ≤ bq b) && decide (rq a ≤ rq b)
theorem yb5 {a b : B} (ha : GB a = true) (hb : GB b = true) : y3M a b = some (dom a b) := by
 unfold y3M dom
 rw [y67 (y2I (y5H ha)) (y2I (y5H hb)), y67 (y2I (y5s ha)) (y2I (y5s hb))]
 have e1 : decide (y3K (val a.fB) (val b.fB) ≤ 0) = decide (bq a ≤ bq b) := decide_eq_decide.2 y5Q
 have e2 : decide (y3K (val a.fR) (val b.fR) ≤ 0) = decide (rq a ≤ rq b) := decide_eq_decide.2 y5Q
 by_cases hab : a ≠ b
 ·rw [if_pos (by simpa using hab), Option.bind_some, Option.bind_some, e1]
  by_cases h1 : bq a ≤ bq b
  ·rw [if_pos (by simpa using h1), Option.bind_some, e2]; simp [hab, h1]
  ·rw [if_neg (by simpa using h1), Option.bind_some]; simp [h1]
 ·rw [if_neg (by simpa using hab)]; simp [hab]
/-! ### the normal form -/
def y6j (c : List B) (out : List B) (v : B) : List B := if (!(out.any fun x => decide (v = x)) && !(c.any fun a => dom a v)) = true then out ++ [v] else out
theorem ycu {c : List B} {k : List B → Option (List B)} (hc : ∀ b ∈ c, GB b = true) (hs : (c.length : Int) ≤ 1000000) :
  ∀ (n : Nat) (out : List B) (i : Int), 0 ≤ i → i ≤ c.length → c.length - i < n → (out.length : Int) ≤ i → y38 c k n out i = k ((c.drop i.toNat).foldl (y6j c) out) := by
 intro n
 induction n with
 | zero => intro out i h0 h1 h2; omega
 | succ n ih =>
  intro out i h0 h1 h2 h3
  rw [y38]
  by_cases h : i < c.length
  ·rw [if_pos (by simpa using h)]
   simp only [jp1]
   rw [ym ⟨h0, h⟩, y1n h0 h, List.foldl_cons]
   have hm := hc _ (y1j h0 h)
   have e1 := ybr (s := out) (v := nth c i) (by omega)
   have e2 := yan (s := c) (f := fun y0 => y3T y0 (nth c i)) (p := fun a => dom a (nth c i)) (fun x hx => by unfold y3T; rw [yb5 (hc x hx) hm]; rfl) (by omega)
   refine (congrArg (fun o => Option.bind o _) e1).trans ?_
   rw [Option.bind_some]
   have hlen : (out.length : Int) + 1 ≤ 1000000 := by omega
   cases hA : out.any fun x => decide (nth c i = x) with
   | true =>
    simp only [Bool.not_true, Bool.false_eq_true, if_false, Option.bind_some]
    rw [yq (by omega), ih out (i + 1) (by omega) (by omega) (by omega) (by omega)]
    congr 2
    unfold y6j; simp [hA]
   | false =>
    simp only [Bool.not_false, if_true]
    refine (congrArg (fun o => Option.bind (Option.bind o _) _) e2).trans ?_
    simp only [Option.bind_some]
    cases hB : c.any fun a => dom a (nth c i) with
    | true =>
     simp only [Bool.not_true, Bool.false_eq_true, if_false]
     rw [yq (by omega), ih out (i + 1) (by omega) (by omega) (by omega) (by omega)]
     congr 2
     unfold y6j; simp [hA, hB]
    | false =>
     simp only [Bool.not_false, if_true]
     rw [ym (by simp only [List.length_append, List.length_cons, List.length_nil]; omega), yq (by omega)]
     refine (ih _ (i + 1) (by omega) (by omega) (by omega) (by simp; omega)).trans ?_
     congr 2
     unfold y6j; simp [hA, hB]
  ·rw [if_neg (by simpa using h), y1y h]; rfl
/-! sorting by a key -/
def y6U {α : Type} (key : α → Rat) (l : List α) : List α := y1z (fun x y => some (y3K (key x) (key y))) l
theorem ybs {α : Type} {p q : α → α → Option Int} {x : α} {l : List α} (h : ∀ y ∈ l, cby p x y = cby q x y) : y6n p x l = y6n q x l := by
 induction l with
 | nil => rfl
 | cons y l ih =>
  unfold y6n
  rw [h y (by simp), ih fun z hz => h z (by simp [hz])]
theorem yb6 {α : Type} {p q : α → α → Option Int} {l : List α} (h : ∀ x ∈ l, ∀ y ∈ l, cby p x y = cby q x y) : y1z p l = y1z q l := by
 induction l with
 | nil => rfl
 | cons x l ih =>
  unfold y1z
  rw [ih fun a ha b hb => h a (by simp [ha]) b (by simp [hb])]
  exact ybs fun y hy => h x (by simp) y (by simp [(y4J q l).mem_iff.1 hy])
theorem ybt {α : Type} {key : α → Rat} (x : α) (l : List α) (h : l.Pairwise fun a b => key a ≤ key b) : (y6n (fun x y => some (y3K (key x) (key y))) x l).Pairwise fun a b => key a ≤ key b := by
 induction l with
 | nil => simp [y6n]
 | cons y l ih =>
  obtain ⟨h1, h2⟩ := List.pairwise_cons.1 h
  unfold y6n
  split
  ·rename_i hxy
   have hxy : key x ≤ key y := y5Q.1 hxy
   refine List.pairwise_cons.2 ⟨fun z hz => ?_, h⟩
   rcases List.mem_cons.1 hz with rfl | hz
   ·exact hxy
   ·exact Rat.le_trans hxy (h1 z hz)
  ·rename_i hxy
   have hxy : key y ≤ key x := Rat.le_of_lt (Rat.not_le.1 fun h => hxy (y5Q.2 h))
   refine List.pairwise_cons.2 ⟨fun z hz => ?_, ih h2⟩
   rcases List.mem_cons.1 ((y9F _ x l).mem_iff.1 hz) with rfl | hz
   ·exact hxy
   ·exact h1 z hz
theorem y7h {α : Type} (key : α → Rat) (l : List α) : (y6U key l).Pairwise fun a b => key a ≤ key b := by
 unfold y6U
 induction l with
 | nil => simp [y1z]
 | cons x l ih => exact ybt x _ ih
theorem y6V {α : Type} (key : α → Rat) (l : List α) : (y6U key l).Perm l := y4J _ l
theorem yb7 {α : Type} [DecidableEq α] {key : α → Rat} {p : α → α → Option Int} {l : List α} (hp : ∀ x ∈ l, ∀ y ∈ l, p x y = some (y3K (key x) (key y))) (hi : ∀ x ∈ l, ∀ y ∈ l, key x = key y → x = y) :
  y1z p l = y6U key l ∧ ordB p (y1z p l) = true := by
 have hc : ∀ x ∈ l, ∀ y ∈ l, cby p x y = y3K (key x) (key y) := fun x hx y hy => by unfold cby; rw [hp x hx y hy]; rfl
 have e : y1z p l = y6U key l := yb6 fun x hx y hy => by rw [hc x hx y hy]; rfl
 refine ⟨e, ?_⟩
 have hm : ∀ x ∈ y1z p l, x ∈ l := fun x hx => (y4J p l).mem_iff.1 hx
 have hs := y7h key l
 rw [← e] at hs
 simp only [ordB, Bool.and_eq_true, List.all_eq_true, Bool.not_eq_true', decide_eq_false_iff_not, y9m]
 refine ⟨fun x hx => ⟨fun y hy => by rw [hp x (hm x hx) y (hm y hy)]; rfl, by rw [hc x (hm x hx) x (hm x hx), ycs]; omega⟩, ?_⟩
 refine List.Pairwise.imp_of_mem ?_ hs
 intro x y hx hy hxy
 rw [hc x (hm x hx) y (hm y hy), hc y (hm y hy) x (hm x hx), y3W, y3W]
 rcases y7f hxy with h | h
 ·exact .inr ⟨h, Rat.not_lt.2 hxy⟩
 ·exact .inl (hi x (hm x hx) y (hm y hy) h)
theorem yao (n : Nat) (h : n < 4611686018427387904) : Go.Lib.bitLen n ≤ 62 := Go.Lib.bitLen_le n 62 (by omega) (by omega)
theorem sortB_eq {l : List B} {p : B → B → Option Int} {key : B → Rat} (hp : ∀ x ∈ l, ∀ y ∈ l, p x y = some (y3K (key x) (key y))) (hi : ∀ x ∈ l, ∀ y ∈ l, key x = key y → x = y) (hs : (l.length : Int) ≤ 1000000) :
  y10 l p = some (y6U key l) := by
 obtain ⟨e, ho⟩ := yb7 hp hi
 unfold y10 y60 y2s
 rw [y54 (by omega), ym (by omega), Option.bind_some]
 have hb := yao l.length (by omega)
 rw [Int.toNat_natCast, ym ⟨⟨rfl, rfl⟩, by omega, by omega, by omega⟩, ym ho, Option.bind_some, e]
theorem sortR_eq {l : List R} {p : R → R → Option Int} {key : R → Rat} (hp : ∀ x ∈ l, ∀ y ∈ l, p x y = some (y3K (key x) (key y))) (hi : ∀ x ∈ l, ∀ y ∈ l, key x = key y → x = y) (hs : (l.length : Int) ≤ 1000000) :
  y1w l p = some (y6U key l) := by
 obtain ⟨e, ho⟩ := yb7 hp hi
 unfold y1w y60 y33
 rw [y54 (by omega), ym (by omega), Option.bind_some]
 have hb := yao l.length (by omega)
 rw [Int.toNat_natCast, ym ⟨⟨rfl, rfl⟩, by omega, by omega, by omega⟩, ym ho, Option.bind_some, e]
theorem yb8 {c : List B} : ∀ (l out : List B) (v : B), v ∈ l.foldl (y6j c) out ↔ v ∈ out ∨ (v ∈ l ∧ (c.any fun a => dom a v) = false)
 | [], out, v => by simp
 | x :: l, out, v => by
  rw [List.foldl_cons, yb8 l]
  unfold y6j
  by_cases h1 : (out.any fun y => decide (x = y)) = true
  ·have hx : x ∈ out := by simpa using h1
   rw [if_neg (by simp [h1])]
   constructor
   ·rintro (h | h)
    ·exact .inl h
    ·exact .inr ⟨by simp [h.1], h.2⟩
   ·rintro (h | ⟨h, h'⟩)
    ·exact .inl h
    ·rcases List.mem_cons.1 h with rfl | h
     ·exact .inl hx
     ·exact .inr ⟨h, h'⟩
  ·by_cases h2 : (c.any fun a => dom a x) = true
   ·rw [if_neg (by simp [h2])]
    constructor
    ·rintro (h | h)
     ·exact .inl h
     ·exact .inr ⟨by simp [h.1], h.2⟩
    ·rintro (h | ⟨h, h'⟩)
     ·exact .inl h
     ·rcases List.mem_cons.1 h with rfl | h
      ·rw [h2] at h'; cases h'
      ·exact .inr ⟨h, h'⟩
   ·rw [if_pos (by simp [h1, h2])]
    simp only [List.mem_append, List.mem_singleton]
    constructor
    ·rintro ((h | rfl) | h)
     ·exact .inl h
     ·exact .inr ⟨by simp, by simpa using h2⟩
     ·exact .inr ⟨by simp [h.1], h.2⟩
    ·rintro (h | ⟨h, h'⟩)
     ·exact .inl (.inl h)
     ·rcases List.mem_cons.1 h with rfl | h
      ·exact .inl (.inr rfl)
      ·exact .inr ⟨h, h'⟩
theorem y9Q {c : List B} : ∀ (l out : List B), out.Nodup → (l.foldl (y6j c) out).Nodup
 | [], out, h => h
 | x :: l, out, h => by
  rw [List.foldl_cons]
  apply y9Q l
  unfold y6j
  split
  ·rename_i h1
   simp only [Bool.and_eq_true, Bool.not_eq_true'] at h1
   have hx : x ∉ out := by have := h1.1; simp at this; exact fun hm => this x hm rfl
   rw [List.nodup_append]
   refine ⟨h, by simp, fun a ha b hb => ?_⟩
   simp at hb; subst hb
   intro e; subst e; exact hx ha
  ·exact h
theorem y9s {c : List B} : ∀ (l out : List B), (l.foldl (y6j c) out).length ≤ out.length + l.length
 | [], out => by simp
 | x :: l, out => by
  rw [List.foldl_cons]
  have := y9s (c := c) l (y6j c out x)
  have h : (y6j c out x).length ≤ out.length + 1 := by unfold y6j; split <;> simp
  simp; omega
def nrm0 (c : List B) : List B := c.foldl (y6j c) []
def yR (c : List B) : List B := y6U bq (nrm0 c)
theorem y7i {c : List B} {v : B} : v ∈ nrm0 c ↔ v ∈ c ∧ ∀ a ∈ c, dom a v = false := by
 unfold nrm0; rw [yb8]; simp
theorem y7j {c : List B} {v : B} : v ∈ yR c ↔ v ∈ c ∧ ∀ a ∈ c, dom a v = false := by
 unfold yR; rw [(y6V _ _).mem_iff, y7i]
theorem yb9 (c : List B) : (yR c).length ≤ c.length := by
 unfold yR; rw [(y6V _ _).length_eq]
 have := y9s (c := c) c []
 simpa [nrm0] using this
theorem yba {c : List B} {x y : B} (hx : x ∈ c ∧ ∀ a ∈ c, dom a x = false) (hy : y ∈ c ∧ ∀ a ∈ c, dom a y = false) (h : bq x = bq y) : x = y := by
 have h1 := hx.2 y hy.1
 have h2 := hy.2 x hx.1
 by_cases e : x = y
 ·exact e
 ·exfalso
  have e' : y ≠ x := fun h => e h.symm
  unfold dom at h1 h2
  rw [h] at h1 h2
  simp [e, e', Rat.le_refl] at h1 h2
  grind
theorem norm_eq {c : List B} (hc : ∀ b ∈ c, GB b = true) (hs : (c.length : Int) ≤ 1000000) : y51 c = some (yR c) := by
 unfold y51
 simp only [jp1]
 rw [ycu hc hs yu [] 0 (by omega) (by omega) (by rw [yU]; omega) (by simp)]
 show Option.bind (y10 (nrm0 c) _) _ = _
 have hl : (nrm0 c).length ≤ c.length := by have := y9s (c := c) c []; simpa [nrm0] using this
 rw [sortB_eq (key := bq) (fun x hx y hy => ?_) (fun x hx y hy h => yba (y7i.1 hx) (y7i.1 hy) h) (by omega)]
 ·rfl
 ·unfold y4t
  rw [y67 (y2I (y5H (hc x (y7i.1 hx).1))) (y2I (y5H (hc y (y7i.1 hy).1)))]; rfl
theorem y5w {c : List B} : (yR c).Pairwise fun x y => bq x < bq y ∧ rq y < rq x := by
 have h := y7h bq (nrm0 c)
 have hn : (yR c).Nodup := (y6V bq (nrm0 c)).nodup_iff.2 (y9Q c [] (by simp))
 have h2 := List.Pairwise.and h hn
 refine List.Pairwise.imp_of_mem ?_ h2
 intro x y hx hy hxy
 have hx := y7j.1 hx; have hy := y7j.1 hy
 have hlt : bq x < bq y := by
  rcases y7f hxy.1 with h | h
  ·exact h
  ·exact absurd (yba hx hy h) hxy.2
 refine ⟨hlt, ?_⟩
 have := hy.2 x hx.1
 unfold dom at this
 simp [hxy.2, hxy.1] at this
 grind
end Go.Proofs.YtakfmdiiehcbdaaGreat
