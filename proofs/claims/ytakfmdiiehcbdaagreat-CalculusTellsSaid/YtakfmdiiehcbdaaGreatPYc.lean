/- A part of this claim's proof: models of functions, walks, plain laws. No conditions. -/
import Derived.Test.YtakfmdiiehcbdaaGreatPYb
namespace Go.Proofs.YtakfmdiiehcbdaaGreat
open Go Go.RowKit Sep
set_option linter.all false
/-! ### grids -/
theorem ybu {n d : Int} (hd : 0 < d) (h : n.natAbs ≤ 1073741824 ∧ d ≤ 1073741824) : fits (Rat.divInt n d) = true := by
 simp only [fits, decide_eq_true_eq]
 rw [Rat.den_divInt, if_neg (by omega), Rat.num_divInt]
 have hs : d.sign = 1 := Int.sign_eq_one_of_pos hd
 rw [hs, Int.one_mul]
 constructor
 ·have h1 : (n / (Int.gcd d n : Int)).natAbs ≤ n.natAbs := by
   have h2 : ((Int.gcd d n : Nat) : Int) ∣ n := Int.gcd_dvd_right ..
   rw [Int.natAbs_ediv_of_dvd h2]
   exact Nat.div_le_self _ _
  omega
 ·have := Nat.div_le_self d.natAbs (Int.gcd d n)
  omega
def G (m k : Nat) (q : Rat) : Prop := ∃ n : Int, n.natAbs ≤ m * k ∧ q = Rat.divInt n k
theorem G.fits {m k : Nat} {q : Rat} (h : G m k q) (hk : 0 < k) (hk2 : k ≤ 1073741824) (hm : m * k ≤ 1073741824) : fits q = true := by
 obtain ⟨n, hn, rfl⟩ := h
 exact ybu (by omega) ⟨by omega, by omega⟩
theorem G.add {m m' k : Nat} {p q : Rat} (hk : 0 < k) (hp : G m k p) (hq : G m' k q) : G (m + m') k (p + q) := by
 obtain ⟨n, hn, rfl⟩ := hp; obtain ⟨n', hn', rfl⟩ := hq
 refine ⟨n + n', ?_, ?_⟩
 ·have := Nat.add_mul m m' k
  omega
 ·rw [Rat.divInt_add_divInt _ _ (by omega) (by omega), show n * (k : Int) + n' * k = (n + n') * k by rw [Int.add_mul], Rat.divInt_mul_right (by omega)]
theorem G.neg {m k : Nat} {p : Rat} (hp : G m k p) : G m k (-p) := by
 obtain ⟨n, hn, rfl⟩ := hp
 exact ⟨-n, by omega, by rw [Rat.neg_divInt]⟩
theorem G.sub {m m' k : Nat} {p q : Rat} (hk : 0 < k) (hp : G m k p) (hq : G m' k q) : G (m + m') k (p - q) := by
 rw [Rat.sub_eq_add_neg]; exact hp.add hk hq.neg
theorem G.mul {m m' k k' : Nat} {p q : Rat} (hp : G m k p) (hq : G m' k' q) : G (m * m') (k * k') (p * q) := by
 obtain ⟨n, hn, rfl⟩ := hp; obtain ⟨n', hn', rfl⟩ := hq
 refine ⟨n * n', ?_, ?_⟩
 ·rw [Int.natAbs_mul, show m * m' * (k * k') = (m * k) * (m' * k') by rw [Nat.mul_mul_mul_comm]]
  exact Nat.mul_le_mul hn hn'
 ·rw [Rat.divInt_mul_divInt]; rfl
theorem G.fine {m k : Nat} {p : Rat} (j : Nat) (hj : 0 < j) (hp : G m k p) : G m (k * j) p := by
 obtain ⟨n, hn, rfl⟩ := hp
 refine ⟨n * j, ?_, ?_⟩
 ·rw [Int.natAbs_mul, ← Nat.mul_assoc]; exact Nat.mul_le_mul hn (by omega)
 ·rw [show ((k * j : Nat) : Int) = (k : Int) * j by push_cast; rfl, Rat.divInt_mul_right (by omega)]
theorem G.le {m m' k : Nat} {p : Rat} (h : m ≤ m') (hp : G m k p) : G m' k p := by
 obtain ⟨n, hn, rfl⟩ := hp
 exact ⟨n, Nat.le_trans hn (Nat.mul_le_mul_right _ h), rfl⟩
theorem y6k {q : Rat} (h : fits q = true) : mk q = (ofQ q, 0) := by unfold mk; rw [if_pos h]
/-! ### the law's points and curves -/
def SB (b : B) : Prop := GB b = true ∧ G 100 1 (bq b) ∧ G 5 8 (rq b)
def SC (c : List B) : Prop := 1 ≤ c.length ∧ c.length ≤ 4 ∧ ∀ b ∈ c, SB b
theorem SC.all {c : List B} (h : SC c) : ∀ b ∈ c, GB b = true := fun b hb => (h.2.2 b hb).1
theorem SC.VC {c : List B} (h : SC c) : VC c = true := by
 unfold YtakfmdiiehcbdaaGreat.VC
 rw [Bool.and_eq_true, decide_eq_true_eq, List.all_eq_true]
 exact ⟨⟨h.1, by have := h.2.1; omega⟩, h.all⟩
theorem SB.pos {b : B} (h : SB b) : 0 ≤ bq b ∧ 0 ≤ rq b := ⟨GR_pos (y5H h.1), GR_pos (y5s h.1)⟩
theorem y2p {R A0 : Type} {K : A0 → Option R} {F : (A0 → Option R) → Option R} {P : Option R → Prop} (h : ∀ k : A0 → Option R, (∀ x0, k x0 = K x0) → P (F k)) : P (jp1 K F) := h K fun _ => rfl
/-! ### values -/
def vq (t : Rat) (b : B) : Rat := bq b + rq b * t
def y68 (t : Rat) (b : B) : Bool := fits (rq b * t) && fits (vq t b)
theorem value_ok {b : B} {t : R} (hb : GB b = true) (ht : GR t = true) : y1x ⟨0⟩ b t = some (if y68 (val t) b then (ofQ (vq (val t) b), (⟨0⟩ : zV)) else (⟨0, 0⟩, ⟨3⟩)) := by
 unfold y1x y1r
 rw [if_neg (by simp)]
 simp only []
 rw [yb4 (y2I (y5s hb)) (y2I ht), Option.bind_some, Option.bind_some]
 show Option.bind (if _ then _ else _) _ = _
 have hr : val b.fR * val t = rq b * val t := rfl
 rw [hr]
 unfold y68
 cases h : fits (rq b * val t) with
 | true =>
  rw [y6k h]
  rw [if_neg (by simp)]
  rw [y9N (y2I (y5H hb)) (y5i h), y4d]
  simp only [Option.bind_some, Bool.true_and]
  have hv : val b.fB + rq b * val t = vq (val t) b := rfl
  rw [hv]
  cases h2 : fits (vq (val t) b) with
  | true => rw [y6k h2]; rfl
  | false => unfold mk; rw [h2]; rfl
 | false =>
  unfold mk
  rw [h]
  simp
theorem ycv {b : B} {t : R} {e : Int} (he : e ≠ 0) : y1x ⟨e⟩ b t = some (⟨0, 0⟩, ⟨e⟩) := by
 unfold y1x y1r
 simp [he]
theorem ybb {α β R : Type} [Inhabited α] {c : List α} {S : Int → α → Option (β × Int)} {ok : α → Bool} {g : α → β} {z : β} {k : List β → Int → Option R} {K3 : Option R} {L : Nat → List β → Int → Int → Option R}
  (hS : ∀ b ∈ c, S 0 b = some (if ok b then (g b, 0) else (z, 3)) ∧ S 3 b = some (z, 3))
  (hL : ∀ n out (i : Int) e v e', 0 ≤ i → i < c.length → (out.length : Int) = i → S e (nth c i) = some (v, e') → L (n + 1) out i e = L n (out ++ [v]) (i + 1) e')
  (hE : ∀ n out (i : Int) e, ¬ i < c.length → L (n + 1) out i e = k out e)
  (hK : ∀ out, k out 3 = K3) :
  ∀ (n : Nat) (out : List β) (i : Int), 0 ≤ i → (out.length : Int) = i → i ≤ c.length → c.length < n + i →
   L n out i 3 = K3 ∧ L n out i 0 = if (c.drop i.toNat).all ok then k (out ++ (c.drop i.toNat).map g) 0 else K3
 | 0, out, i, h0, ho, h1, h2 => by omega
 | n + 1, out, i, h0, ho, h1, h2 => by
  by_cases h : i < c.length
  ·have hm := hS _ (y1j h0 h)
   have ih := fun out' ho' => ybb hS hL hE hK n out' (i + 1) (by omega) ho' (by omega) (by omega)
   refine ⟨?_, ?_⟩
   ·rw [hL n out i 3 _ _ h0 h ho hm.2]
    exact (ih _ (by simp; omega)).1
   ·rw [y1n h0 h, List.all_cons, List.map_cons]
    cases hb : ok (nth c i) with
    | true =>
     have h3 := hm.1
     rw [hb, if_pos rfl] at h3
     rw [hL n out i 0 _ _ h0 h ho h3, (ih _ (by simp; omega)).2]
     simp
    | false =>
     have h3 := hm.1
     rw [hb, if_neg (by simp)] at h3
     rw [hL n out i 0 _ _ h0 h ho h3, (ih _ (by simp; omega)).1]
     simp
  ·rw [hE n out i 3 h, hE n out i 0 h, y1y h, hK]
   simp
/-! ### least -/
def minQ : List Rat → Rat
 | [] => 0
 | [x] => x
 | x :: y :: l => let m := minQ (y :: l); if x ≤ m then x else m
def y8g (l : List Rat) (q : Rat) : Prop := q ∈ l ∧ ∀ x ∈ l, q ≤ x
theorem y8g.unique {l : List Rat} {p q : Rat} (hp : y8g l p) (hq : y8g l q) : p = q := Rat.le_antisymm (hp.2 _ hq.1) (hq.2 _ hp.1)
theorem yaa : ∀ (l : List Rat), l ≠ [] → y8g l (minQ l)
 | [], h => absurd rfl h
 | [x], _ => ⟨by simp [minQ], fun y hy => by simp at hy; subst hy; exact Rat.le_refl⟩
 | x :: y :: l, _ => by
  have ih := yaa (y :: l) (by simp)
  unfold minQ
  by_cases h : x ≤ minQ (y :: l)
  ·rw [if_pos h]
   refine ⟨by simp, fun z hz => ?_⟩
   rcases List.mem_cons.1 hz with rfl | hz
   ·exact Rat.le_refl
   ·exact Rat.le_trans h (ih.2 z hz)
  ·rw [if_neg h]
   refine ⟨List.mem_cons_of_mem _ ih.1, fun z hz => ?_⟩
   rcases List.mem_cons.1 hz with rfl | hz
   ·exact Rat.le_of_lt (Rat.not_le.1 h)
   ·exact ih.2 z hz
theorem ybJ {l : List Rat} {q : Rat} (h : y8g l q) : minQ l = q := (yaa l (List.ne_nil_of_mem h.1)).unique h
theorem y2N {α : Type} [Inhabited α] {l : List α} {i : Int} {x : α} (h0 : 0 ≤ i) (h : i < l.length) : x ∈ l.take (i + 1).toNat ↔ x ∈ l.take i.toNat ∨ x = nth l i := by
 rw [y4Y l h0 h, List.mem_append, List.mem_singleton]
theorem y8H {l : List R} {k : Int → Int → Option R} (hl : ∀ x ∈ l, V x = true) (hs : (l.length : Int) ≤ 1000000) :
  ∀ (n : Nat) (i : Int) (c : R), 0 ≤ i → i ≤ l.length → l.length < n + i → c ∈ l → (∀ x ∈ l.take i.toNat, val c ≤ val x) →
   ∃ d : R, yy l (fun y0 y1 => yM y0 y1) k n i c.fN c.fD = k d.fN d.fD ∧ d ∈ l ∧ ∀ x ∈ l, val d ≤ val x
 | 0, i, c, h0, h1, h2, hc, hm => by omega
 | n + 1, i, c, h0, h1, h2, hc, hm => by
  rw [yy]
  by_cases h : i < l.length
  ·rw [if_pos (by simpa using h)]
   simp only [jp2]
   rw [ym ⟨h0, h⟩, ym ⟨h0, h⟩, yq (by omega)]
   have hx := y1j h0 h
   show ∃ d : R, Option.bind (yM (nth l i) c) _ = _ ∧ _
   rw [y67 (hl _ hx) (hl _ hc), Option.bind_some]
   by_cases hlt : val (nth l i) < val c
   ·rw [if_pos (by simpa using y3W.2 hlt)]
    refine y8H hl hs n (i + 1) (nth l i) (by omega) (by omega) (by omega) hx fun x hx' => ?_
    rcases (y2N h0 h).1 hx' with h3 | rfl
    ·exact Rat.le_trans (Rat.le_of_lt hlt) (hm x h3)
    ·exact Rat.le_refl
   ·rw [if_neg (by simpa using fun h => hlt (y3W.1 h))]
    refine y8H hl hs n (i + 1) c (by omega) (by omega) (by omega) hc fun x hx' => ?_
    rcases (y2N h0 h).1 hx' with h3 | rfl
    ·exact hm x h3
    ·exact Rat.not_lt.1 hlt
  ·rw [if_neg (by simpa using h)]
   refine ⟨c, rfl, hc, fun x hx => hm x ?_⟩
   rwa [List.take_of_length_le (by omega)]
theorem y3o {R A0 A1 : Type} {K : A0 → A1 → Option R} {F : (A0 → A1 → Option R) → Option R} {P : Option R → Prop} (h : ∀ k : A0 → A1 → Option R, (∀ x0 x1, k x0 x1 = K x0 x1) → P (F k)) : P (jp2 K F) := h K fun _ _ => rfl
theorem minR_eq {l : List R} (hl : ∀ x ∈ l, V x = true) (h0 : l ≠ []) (hs : (l.length : Int) ≤ 1000000) : y14 l (fun y0 y1 => yM y0 y1) = some (ofQ (minQ (l.map val))) := by
 have hp := List.length_pos_iff.2 h0
 unfold y14
 rw [if_neg (by simp; omega), ym (by omega)]
 refine y3o (P := fun o => o = _) fun k hk => ?_
 have hm0 := y1j (l := l) (i := 0) (by omega) (by omega)
 obtain ⟨d, e, hd, hle⟩ := y8H (k := k) hl hs yu 1 (nth l 0) (by omega) (by omega) (by rw [yU]; omega) hm0 (by
  intro x hx
  have h1 : (1 : Int) = 0 + 1 := rfl
  rw [h1] at hx
  rcases (y2N (by omega) (by omega)).1 hx with h3 | rfl
  ·simp at h3
  ·exact Rat.le_refl)
 have h1 : minQ (l.map val) = val d := ybJ ⟨List.mem_map_of_mem hd, fun x hx => by
  obtain ⟨y, hy, rfl⟩ := List.mem_map.1 hx
  exact hle y hy⟩
 rw [e, hk, h1, y8W (hl d hd)]
theorem rate1_eq {a b : B} (ha : GB a = true) (hb : GB b = true) : y2m a b = some (y3K (rq a) (rq b)) := by
 unfold y2m
 rw [y67 (y2I (y5s ha)) (y2I (y5s hb))]; rfl
theorem y8I {l : List B} {k : Int → Int → Int → Int → Option B} (hl : ∀ x ∈ l, GB x = true) (hs : (l.length : Int) ≤ 1000000) :
  ∀ (n : Nat) (i : Int) (c : B), 0 ≤ i → i ≤ l.length → l.length < n + i → c ∈ l → (∀ x ∈ l.take i.toNat, rq c ≤ rq x) →
   ∃ d : B, yJ l (fun y0 y1 => y2m y0 y1) k n i c.fB.fN c.fB.fD c.fR.fN c.fR.fD = k d.fB.fN d.fB.fD d.fR.fN d.fR.fD ∧ d ∈ l ∧ ∀ x ∈ l, rq d ≤ rq x
 | 0, i, c, h0, h1, h2, hc, hm => by omega
 | n + 1, i, c, h0, h1, h2, hc, hm => by
  rw [yJ]
  by_cases h : i < l.length
  ·rw [if_pos (by simpa using h)]
   simp only [jp4]
   rw [ym ⟨h0, h⟩, ym ⟨h0, h⟩, yq (by omega)]
   have hx := y1j h0 h
   show ∃ d : B, Option.bind (y2m (nth l i) c) _ = _ ∧ _
   rw [rate1_eq (hl _ hx) (hl _ hc), Option.bind_some]
   by_cases hlt : rq (nth l i) < rq c
   ·rw [if_pos (decide_eq_true (y3W.2 hlt))]
    refine y8I hl hs n (i + 1) (nth l i) (by omega) (by omega) (by omega) hx fun x hx' => ?_
    rcases (y2N h0 h).1 hx' with h3 | rfl
    ·exact Rat.le_trans (Rat.le_of_lt hlt) (hm x h3)
    ·exact Rat.le_refl
   ·rw [if_neg (fun h => hlt (y3W.1 (of_decide_eq_true h)))]
    refine y8I hl hs n (i + 1) c (by omega) (by omega) (by omega) hc fun x hx' => ?_
    rcases (y2N h0 h).1 hx' with h3 | rfl
    ·exact hm x h3
    ·exact Rat.not_lt.1 hlt
  ·rw [if_neg (by simpa using h)]
   refine ⟨c, rfl, hc, fun x hx => hm x ?_⟩
   rwa [List.take_of_length_le (by omega)]
theorem ybc {R A0 A1 A2 A3 : Type} {K : A0 → A1 → A2 → A3 → Option R} {F : (A0 → A1 → A2 → A3 → Option R) → Option R} {P : Option R → Prop} (h : ∀ k : A0 → A1 → A2 → A3 → Option R, (∀ x0 x1 x2 x3, k x0 x1 x2 x3 = K x0 x1 x2 x3) → P (F k)) : P (jp4 K F) := h K fun _ _ _ _ => rfl
theorem minB_eq {l : List B} (hl : ∀ x ∈ l, GB x = true) (h0 : l ≠ []) (hs : (l.length : Int) ≤ 1000000) : ∃ d, y1l l (fun y0 y1 => y2m y0 y1) = some d ∧ d ∈ l ∧ ∀ x ∈ l, rq d ≤ rq x := by
 have hp := List.length_pos_iff.2 h0
 unfold y1l
 rw [if_neg (by simp; omega), ym (by omega)]
 refine ybc (P := fun o => ∃ d, o = some d ∧ d ∈ l ∧ ∀ x ∈ l, rq d ≤ rq x) fun k hk => ?_
 have hm0 := y1j (l := l) (i := 0) (by omega) (by omega)
 obtain ⟨d, e, hd, hle⟩ := y8I (k := k) hl hs yu 1 (nth l 0) (by omega) (by omega) (by rw [yU]; omega) hm0 (by
  intro x hx
  have h1 : (1 : Int) = 0 + 1 := rfl
  rw [h1] at hx
  rcases (y2N (by omega) (by omega)).1 hx with h3 | rfl
  ·simp at h3
  ·exact Rat.le_refl)
 rw [e, hk]
 exact ⟨d, rfl, hd, hle⟩
/-! ### At and Rate -/
def AT (c : List B) (t : Rat) : Rat := minQ (c.map (vq t))
theorem AT_is {c : List B} {t : Rat} (h : c ≠ []) : y8g (c.map (vq t)) (AT c t) := yaa _ (by simpa using h)
theorem at_loop {c : List B} {t : R} {k : List R → Int → Option (R × Int)} {K3 : Option (R × Int)} (hc : ∀ b ∈ c, GB b = true) (ht : GR t = true) (hs : (c.length : Int) ≤ 1000000) (hK : ∀ out, k out 3 = K3)
  {n : Nat} (hn : c.length < n) : y24 c t k n [] 0 0 = if c.all (y68 (val t)) then k (c.map fun b => ofQ (vq (val t) b)) 0 else K3 := by
 have := (ybb (c := c) (S := fun e b => (y1x ⟨e⟩ b t).bind fun x => some (x.1, x.2.fE)) (ok := y68 (val t)) (g := fun b => ofQ (vq (val t) b)) (z := ⟨0, 0⟩) (k := k) (K3 := K3) (L := fun n out i e => y24 c t k n out i e)
  (fun b hb => ⟨by rw [value_ok (hc b hb) ht]; cases y68 (val t) b <;> rfl, by rw [ycv (by decide)]; rfl⟩) ?_ ?_ hK n [] 0 (by omega) rfl (by omega) (by omega)).2
 ·simpa using this
 ·intro n out i e v e' h0 h ho hS
  show y24 c t k (n + 1) out i e = _
  rw [y24, if_pos (by simpa using h), ym ⟨h0, h⟩]
  show Option.bind (y1x ⟨e⟩ (nth c i) t) _ = _
  cases hv : y1x ⟨e⟩ (nth c i) t with
  | none => rw [hv] at hS; cases hS
  | some x =>
   rw [hv] at hS
   have hS : some (x.1, x.2.fE) = some (v, e') := hS
   obtain ⟨rfl, rfl⟩ := Prod.mk.inj (Option.some.inj hS)
   rw [Option.bind_some, ym (by simp only [List.length_append, List.length_cons, List.length_nil]; omega), yq (by omega)]
 ·intro n out i e h
  show y24 c t k (n + 1) out i e = _
  rw [y24, if_neg (by simpa using h)]
theorem at_eq {c : List B} {t : R} (hc : VC c = true) (ht : GR t = true) : y2L c t = some (if c.all (y68 (val t)) then (ofQ (AT c (val t)), 0) else (⟨0, 0⟩, 3)) := by
 have hl := y7g hc
 unfold y2L
 rw [y4k, y8Z, hc, ht]
 simp only [Option.bind_some, Bool.not_true, Bool.false_eq_true, if_false]
 refine y3o (P := fun o => o = _) fun k hk => ?_
 rw [at_loop (K3 := some (⟨0, 0⟩, 3)) (y55 hc) ht (by omega) (fun out => by rw [hk]; rfl) (by rw [yU]; omega)]
 cases ha : c.all (y68 (val t)) with
 | true =>
  rw [if_pos rfl, if_pos rfl, hk, if_neg (by simp)]
  rw [List.all_eq_true] at ha
  rw [minR_eq (l := c.map fun b => ofQ (vq (val t) b)) ?_ ?_ (by simp; omega), Option.bind_some]
  ·rw [List.map_map]
   congr 3
   unfold AT
   congr 2
   funext b
   exact y4d _
  ·intro x hx
   obtain ⟨b, hb, rfl⟩ := List.mem_map.1 hx
   have := ha b hb
   simp only [y68, Bool.and_eq_true] at this
   exact y5i this.2
  ·intro h
   have := congrArg List.length h
   simp at this; subst this; simp at hl
 | false => simp
theorem at_bad {c : List B} {t : R} (h : ¬ (VC c = true ∧ GR t = true)) : y2L c t = some (⟨0, 0⟩, 2) := by
 unfold y2L
 rw [y4k, y8Z]
 cases h1 : VC c <;> cases h2 : GR t <;> simp_all
theorem VC_ne {c : List B} (hc : VC c = true) : c ≠ [] := fun h => by have := y7g hc; subst h; simp at this
theorem ybK {c : List B} (hc : VC c = true) : ∃ d, y2C c = some (d.fR, 0) ∧ d ∈ c ∧ ∀ x ∈ c, rq d ≤ rq x := by
 have hl := y7g hc
 unfold y2C
 rw [y4k, hc]
 simp only [Option.bind_some, Bool.not_true, Bool.false_eq_true, if_false]
 obtain ⟨d, e, h1, h2⟩ := minB_eq (y55 hc) (VC_ne hc) (by omega)
 rw [e]
 exact ⟨d, rfl, h1, h2⟩
theorem SB.val {b : B} {m : Nat} {t : Rat} (h : SB b) (ht : G m 4 t) : G (5 * m) 32 (rq b * t) ∧ G (100 + 5 * m) 32 (vq t b) := by
 have h1 := h.2.2.mul ht
 exact ⟨h1, (h.2.1.fine 32 (by omega)).add (by omega) h1⟩
theorem SC.ne {c : List B} (h : SC c) : c ≠ [] := VC_ne h.VC
theorem SC.at {c : List B} {m : Nat} {t : Rat} (h : SC c) (ht : G m 4 t) : G (100 + 5 * m) 32 (AT c t) := by
 obtain ⟨b, hb, e⟩ := List.mem_map.1 (AT_is (t := t) h.ne).1
 rw [← e]
 exact ((h.2.2 b hb).val ht).2
end Go.Proofs.YtakfmdiiehcbdaaGreat
