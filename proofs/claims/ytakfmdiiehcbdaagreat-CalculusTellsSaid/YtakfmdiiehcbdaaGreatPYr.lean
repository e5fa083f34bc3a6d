/- A part of this claim's proof: models of functions, walks, plain laws. No conditions. -/
import Derived.Test.YtakfmdiiehcbdaaGreatPYg
namespace Go.Proofs.YtakfmdiiehcbdaaGreat
open Go Go.RowKit Sep
set_option linter.all false
/-! ### the reference's numbers -/
theorem y9u {n : Int} (h : -9223372036854775808 ≤ n ∧ n ≤ 9223372036854775807) : y3c n = some (n.natAbs : Int) := by
 unfold y3c
 by_cases hn : n ≥ 0
 ·rw [if_pos (decide_eq_true hn), y54 (by omega)]
  congr 1; omega
 ·rw [if_neg (by simpa using by omega)]
  have e : u64 n = 18446744073709551616 + n := by
   unfold u64 IntKind.wrap; simp [IntKind.signed, IntKind.bits]; omega
  rw [e, y54 (x := 18446744073709551615 - _) (by omega), y54 (by omega)]
  congr 1; omega
theorem ybg : ∀ (m n x y : Nat), y < 2 ^ m → 2 * m < n → y2x n x y = some ((Nat.gcd x y : Nat) : Int)
 | 0, n + 1, x, y, hy, _ => by
  have : y = 0 := by omega
  subst this
  rw [y2x]; simp
 | m + 1, n + 2, x, y, hy, hn => by
  rw [y2x]
  by_cases h0 : y = 0
  ·subst h0; simp
  ·rw [if_neg (by simpa using h0), ym (by simpa using h0), y8f]
   rw [y2x]
   have hg : Nat.gcd x y = Nat.gcd y (x % y) := by rw [Nat.gcd_comm x y, Nat.gcd_rec, Nat.gcd_comm]
   by_cases h1 : x % y = 0
   ·rw [h1] at hg ⊢; simp [hg]
   ·have h1' : ((x % y : Nat) : Int) ≠ 0 := fun h => h1 (by exact_mod_cast h)
    rw [if_neg (by simpa using h1'), ym h1', y8f]
    have hr : x % y < y := Nat.mod_lt _ (by omega)
    have hg2 : Nat.gcd y (x % y) = Nat.gcd (x % y) (y % (x % y)) := by rw [Nat.gcd_comm y (x % y), Nat.gcd_rec, Nat.gcd_comm]
    have h2 : y % (x % y) < x % y := Nat.mod_lt _ (by omega)
    have h3 : 2 * (y % (x % y)) ≤ y := by
     have h4 := Nat.div_add_mod y (x % y)
     have h5 : 1 ≤ y / (x % y) := (Nat.one_le_div_iff (by omega)).2 (by omega)
     have h6 : x % y * 1 ≤ x % y * (y / (x % y)) := Nat.mul_le_mul_left _ h5
     omega
    have h7 : 2 ^ (m + 1) = 2 * 2 ^ m := by rw [Nat.pow_succ, Nat.mul_comm]
    rw [ybg m n (x % y) (y % (x % y)) (by omega) (by omega), hg, hg2]
    rfl
theorem ybM {x y : Nat} (hy : y < 2 ^ 64) : y6o x y = some ((Nat.gcd x y : Nat) : Int) := ybg 64 yu x y hy (by rw [yU]; omega)
theorem y1G (x : R) : y1R x = some (V x) := by
 unfold y1R V
 by_cases h : (x.fD ≥ 1 ∧ x.fD ≤ 1073741824 ∧ x.fN ≥ (-1073741824) ∧ x.fN ≤ 1073741824)
 ·rw [if_pos (by simp; omega), y9u (by omega), Option.bind_some, y54 (x := x.fD) (by omega)]
  have hd : x.fD = (x.fD.natAbs : Int) := by omega
  rw [hd, ybM (by omega), Option.bind_some, Option.bind_some]
  congr 1
  rw [Bool.eq_iff_iff]
  simp only [decide_eq_true_eq, Int.natAbs_natCast]
  omega
 ·rw [if_neg (by simp; omega), Option.bind_some]
  congr 1
  symm
  rw [decide_eq_false_iff_not]
  omega
theorem y8i {n d : Int} (hd : d ≠ 0) (h : n.natAbs ≤ 4611686018427387904 ∧ d.natAbs ≤ 4611686018427387904) : y3A n d = some (mk (Rat.divInt n d)) := by
 rw [← y5j hd h]
 unfold y3A y3Q
 rw [if_neg (by simpa using hd), if_neg (by simpa using hd), y9u (by omega), y9u (by omega), y72 (by omega), y72 (by omega)]
 simp only [Option.bind_some]
 rw [ybM (by omega), yb3 (by omega), Option.bind_some, Option.bind_some]
 have hg : 0 < Nat.gcd n.natAbs d.natAbs := Nat.gcd_pos_of_pos_right _ (by omega)
 rw [ym (by omega), ym (by omega)]
 split
 ·rfl
 ·simp only [jp1]
  by_cases hn : n < 0 <;> by_cases hdd : d < 0
  ·have h1 : ¬ d > 0 := by omega
   have h2 : ¬ n > 0 := by omega
   simp [hn, hdd, h1, h2]
  ·have h1 : d > 0 := by omega
   simp [hn, hdd, h1]
  ·have h1 : ¬ d > 0 := by omega
   by_cases h2 : n > 0
   ·simp [hn, hdd, h1, h2]
   ·have h3 : n = 0 := by omega
    subst h3
    simp only [hdd, h1, h2, Int.natAbs_zero]
    have e : u64 (Int.tdiv ((0 : Nat) : Int) ((Nat.gcd 0 d.natAbs : Nat) : Int)) = 0 := by
     rw [Int.natCast_zero, Int.zero_tdiv]; decide
    rw [e]
    have e2 : i64 (0 - (i64 0)) = i64 0 := by decide
    rw [e2]
    simp
  ·have h1 : d > 0 := by omega
   by_cases h2 : n > 0
   ·simp [hn, hdd, h1, h2]
   ·simp [hn, hdd, h1, h2]
theorem y90 {op : Int} {x y : R} (h : ¬ (V x = true ∧ V y = true)) : yB op x y = some (⟨0, 0⟩, 2) := by
 unfold yB
 rw [y1G, y1G]
 cases h1 : V x <;> cases h2 : V y <;> simp_all
theorem ybN {x y : R} (hx : V x = true) (hy : V y = true) : yB 0 x y = some (mk (val x + val y)) := by
 rw [← y9N hx hy]
 have bx := y4v hx; have b2 := y4v hy
 have h1 := y45 bx.1 b2.2.1; have h2 := y45 b2.1 bx.2.1; have h3 := y45 bx.2.1 b2.2.1
 unfold yB y1o y5M y63
 rw [y1G, y1G, yQ, yQ, hx, hy]
 simp only [Option.bind_some, Bool.not_true, Bool.false_eq_true, if_false]
 rw [if_neg (by simp), if_pos (by decide)]
 rw [yq (x := x.fN * y.fD) (by omega), yq (x := y.fN * x.fD) (by omega), yq (x := x.fD * y.fD) (by omega), yq (x := x.fN * y.fD + _) (by omega), y5j (D_ne hx hy) (by omega), y8i (D_ne hx hy) (by omega)]
 rfl
theorem yac {x y : R} (hx : V x = true) (hy : V y = true) : yB 1 x y = some (mk (val x - val y)) := by
 rw [← y9O hx hy]
 have bx := y4v hx; have b2 := y4v hy
 have h1 := y45 bx.1 b2.2.1; have h2 := y45 b2.1 bx.2.1; have h3 := y45 bx.2.1 b2.2.1
 unfold yB y1v y6i y61
 rw [y1G, y1G, yQ, yQ, hx, hy]
 simp only [Option.bind_some, Bool.not_true, Bool.false_eq_true, if_false]
 rw [if_neg (by simp), if_neg (by decide), if_pos (by decide)]
 rw [yq (x := x.fN * y.fD) (by omega), yq (x := y.fN * x.fD) (by omega), yq (x := x.fD * y.fD) (by omega), yq (x := x.fN * y.fD - _) (by omega), y5j (D_ne hx hy) (by omega), y8i (D_ne hx hy) (by omega)]
 rfl
theorem ybO {x y : R} (hx : V x = true) (hy : V y = true) : yB 2 x y = some (mk (val x * val y)) := by
 rw [← yb4 hx hy]
 have bx := y4v hx; have b2 := y4v hy
 have h1 := y45 bx.1 b2.1; have h3 := y45 bx.2.1 b2.2.1
 unfold yB y2X y5O y64
 rw [y1G, y1G, yQ, yQ, hx, hy]
 simp only [Option.bind_some, Bool.not_true, Bool.false_eq_true, if_false]
 rw [if_neg (by simp), if_neg (by decide), if_neg (by decide), if_pos (by decide)]
 rw [yq (x := x.fN * y.fN) (by omega), yq (x := x.fD * y.fD) (by omega), y5j (D_ne hx hy) (by omega), y8i (D_ne hx hy) (by omega)]
 rfl
theorem ybP {x y : R} (hx : V x = true) (hy : V y = true) (h0 : y.fN ≠ 0) : yB 3 x y = some (mk (val x / val y)) := by
 rw [← y9P hx hy h0]
 have bx := y4v hx; have b2 := y4v hy
 have h1 := y45 bx.1 b2.2.1; have h3 := y45 bx.2.1 b2.1
 have hne : x.fD * y.fN ≠ 0 := Int.mul_ne_zero (by omega) h0
 unfold yB y2g y5L y62
 rw [y1G, y1G, yQ, yQ, hx, hy]
 simp only [Option.bind_some, Bool.not_true, Bool.false_eq_true, if_false]
 rw [if_neg (show ¬ (false || decide (y.fN = 0)) = true by simp [h0])]
 rw [if_neg (by simp [h0]), if_neg (by decide), if_neg (by decide), if_neg (by decide)]
 rw [yq (x := x.fN * y.fD) (by omega), yq (x := x.fD * y.fN) (by omega), y5j hne (by omega), y8i hne (by omega)]
 rfl
theorem y7U {x y : R} (hx : V x = true) (hy : V y = true) : yE x y = some (y3K (val x) (val y)) := by
 rw [← y67 hx hy]
 unfold yE yM
 rw [y1G, y1G, yQ, yQ, hx, hy]
 simp only [Option.bind_some, Bool.not_true, Bool.false_or, Bool.false_eq_true, if_false, decide_eq_true_eq]
 by_cases h1 : i64 (x.fN * y.fD) < i64 (y.fN * x.fD)
 ·rw [if_neg (by omega), if_pos h1, if_pos h1]
 ·by_cases h2 : i64 (x.fN * y.fD) = i64 (y.fN * x.fD)
  ·rw [if_pos h2, if_neg h1, if_neg (by omega)]
  ·rw [if_neg h2, if_neg h1, if_neg h1, if_pos (by omega)]
theorem rcmpb {a b : B} (ha : GB a = true) (hb : GB b = true) : yE a.fB b.fB = some (y3K (bq a) (bq b)) := y7U (y2I (y5H ha)) (y2I (y5H hb))
theorem rcmpr {a b : B} (ha : GB a = true) (hb : GB b = true) : yE a.fR b.fR = some (y3K (rq a) (rq b)) := y7U (y2I (y5s ha)) (y2I (y5s hb))
theorem y7k (x : R) : y2G x = some (GR x) := by unfold y2G GR; rw [y1G, Option.bind_some]
theorem ybh {c : List B} {k : Option Bool} (hs : (c.length : Int) ≤ 1000000) : ∀ (n : Nat) (i : Int), 0 ≤ i → i ≤ c.length → c.length < n + i → y2P c k n i = if (c.drop i.toNat).all GB then k else some false
 | 0, i, h0, h1, h2 => by omega
 | n + 1, i, h0, h1, h2 => by
  rw [y2P]
  by_cases h : i < c.length
  ·rw [if_pos (decide_eq_true h), ym ⟨h0, h⟩, ym ⟨h0, h⟩, y1n h0 h, List.all_cons]
   show Option.bind (y2G (nth c i).fB) (fun x => Option.bind (if !x then some true else (y2G (nth c i).fR).bind _) _) = _
   rw [y7k, y7k, Option.bind_some, Option.bind_some, yq (by omega), ybh hs n (i + 1) (by omega) (by omega) (by omega)]
   unfold GB
   cases GR (nth c i).fB <;> cases GR (nth c i).fR <;> simp
  ·rw [if_neg (by simpa using h), y1y h]; rfl
theorem y7l {c : List B} : y3k c = some (VC c) := by
 unfold y3k VC
 by_cases h : 1 ≤ c.length ∧ c.length ≤ 32
 ·rw [if_neg (by simp; omega)]
  refine y5R (P := fun o => o = _) fun k hk => ?_
  rw [ybh (by omega) yu 0 (by omega) (by omega) (by rw [yU]; omega), Int.toNat_zero, List.drop_zero, hk]
  cases c.all GB <;> simp [h]
 ·rw [if_pos (by simp; omega)]
  simp [h]
theorem ycx {b : B} {t : R} (hb : GB b = true) (ht : GR t = true) : y4a b t = some (if y68 (val t) b then (ofQ (vq (val t) b), 0) else (⟨0, 0⟩, 3)) := by
 unfold y4a
 rw [ybO (y2I (y5s hb)) (y2I ht), Option.bind_some]
 have hr : val b.fR * val t = rq b * val t := rfl
 rw [hr]
 unfold y68
 cases h : fits (rq b * val t) with
 | true =>
  rw [y6k h, if_neg (by simp)]
  simp only []
  rw [ybN (y2I (y5H hb)) (y5i h), y4d]
  simp only [Option.bind_some, Bool.true_and]
  have hv : val b.fB + rq b * val t = vq (val t) b := rfl
  rw [hv]
  cases h2 : fits (vq (val t) b) with
  | true => rw [y6k h2]; rfl
  | false => unfold mk; rw [h2]
 | false =>
  unfold mk
  rw [h]
  simp
/-! ### At, Rate -/
theorem y8j {c : List B} {t : R} {k : Int → Int → Option (R × Int)} (hc : ∀ b ∈ c, GB b = true) (ht : GR t = true) (hs : (c.length : Int) ≤ 1000000) :
  ∀ (n : Nat) (i : Int) (best : R), 0 ≤ i → i ≤ c.length → c.length < n + i → 0 < c.length → (0 < i → V best = true ∧ y8g ((c.take i.toNat).map (vq (val t))) (val best)) →
   y3l c t k n i best.fN best.fD = if (c.drop i.toNat).all (y68 (val t)) then k (ofQ (AT c (val t))).fN (ofQ (AT c (val t))).fD else some (⟨0, 0⟩, 3)
 | 0, i, best, h0, h1, h2, h3, h4 => by omega
 | n + 1, i, best, h0, h1, h2, h3, h4 => by
  rw [y3l]
  by_cases h : i < c.length
  ·rw [if_pos (decide_eq_true h)]
   refine y3o (P := fun o => o = _) fun k1 hk1 => ?_
   rw [ym ⟨h0, h⟩, y1n h0 h, List.all_cons]
   show Option.bind (y4a (nth c i) t) _ = _
   have hm := hc _ (y1j h0 h)
   rw [ycx hm ht, Option.bind_some]
   cases hf : y68 (val t) (nth c i) with
   | false => simp
   | true =>
    rw [if_pos rfl, if_neg (by simp), Bool.true_and]
    have hfv : fits (vq (val t) (nth c i)) = true := by
     unfold y68 at hf; rw [Bool.and_eq_true] at hf; exact hf.2
    have hV := y5i hfv
    have hk1' : ∀ x : R, k1 x.fN x.fD = y3l c t k n (i + 1) x.fN x.fD := fun x => by rw [hk1, yq (by omega)]
    have tk := y4Y c h0 h
    by_cases hi : i = 0
    ·rw [if_pos (decide_eq_true hi), Option.bind_some, if_pos rfl, hk1' (ofQ (vq (val t) (nth c i)))]
     refine y8j hc ht hs n (i + 1) _ (by omega) (by omega) (by omega) h3 fun _ => ⟨hV, ?_⟩
     rw [tk, hi, Int.toNat_zero, List.take_zero, List.nil_append, y4d]
     exact ⟨by simp, fun x hx => by simp at hx; subst hx; exact Rat.le_refl⟩
    ·obtain ⟨hb, hmin⟩ := h4 (by omega)
     rw [if_neg (by simpa using hi)]
     show Option.bind (Option.bind (yE (ofQ (vq (val t) (nth c i))) best) _) _ = _
     rw [y7U hV hb, y4d, Option.bind_some, Option.bind_some]
     by_cases hlt : vq (val t) (nth c i) < val best
     ·rw [if_pos (decide_eq_true (y3W.2 hlt)), hk1' (ofQ (vq (val t) (nth c i)))]
      refine y8j hc ht hs n (i + 1) _ (by omega) (by omega) (by omega) h3 fun _ => ⟨hV, ?_⟩
      rw [tk, List.map_append, y4d]
      refine ⟨by simp, fun x hx => ?_⟩
      rcases List.mem_append.1 hx with hx | hx
      ·exact Rat.le_trans (Rat.le_of_lt hlt) (hmin.2 x hx)
      ·simp at hx; subst hx; exact Rat.le_refl
     ·rw [if_neg (fun h => hlt (y3W.1 (of_decide_eq_true h))), hk1' best]
      refine y8j hc ht hs n (i + 1) _ (by omega) (by omega) (by omega) h3 fun _ => ⟨hb, ?_⟩
      rw [tk, List.map_append]
      refine ⟨List.mem_append_left _ hmin.1, fun x hx => ?_⟩
      rcases List.mem_append.1 hx with hx | hx
      ·exact hmin.2 x hx
      ·simp at hx; subst hx; exact Rat.not_lt.1 hlt
  ·rw [if_neg (by simpa using h), y1y h]
   obtain ⟨hb, hmin⟩ := h4 (by omega)
   rw [List.take_of_length_le (by omega)] at hmin
   have e : ofQ (AT c (val t)) = best := by
    unfold AT; rw [ybJ hmin, y8W hb]
   rw [e]; rfl
theorem rat_eq (c : List B) (t : R) : y5h c t = y2L c t := by
 by_cases h : VC c = true ∧ GR t = true
 ·rw [at_eq h.1 h.2]
  have hl := y7g h.1
  unfold y5h
  rw [y7l, y7k, h.1, h.2]
  simp only [Option.bind_some, Bool.not_true, Bool.false_eq_true, if_false]
  refine y3o (P := fun o => o = _) fun k hk => ?_
  have := y8j (k := k) (y55 h.1) h.2 (by omega) yu 0 ⟨0, 0⟩ (by omega) (by omega) (by rw [yU]; omega) (by omega) (fun h => by omega)
  rw [Int.toNat_zero, List.drop_zero] at this
  refine Eq.trans this ?_
  rw [hk]
  cases c.all (y68 (val t)) <;> rfl
 ·rw [at_bad h]
  unfold y5h
  rw [y7l, y7k]
  cases h1 : VC c <;> cases h2 : GR t <;> simp_all
theorem y7A {c : List B} {k : Int → Int → Option (R × Int)} (hc : ∀ b ∈ c, GB b = true) (hs : (c.length : Int) ≤ 1000000) :
  ∀ (n : Nat) (i : Int) (d : B), 0 ≤ i → i ≤ c.length → c.length < n + i → d ∈ c → (∀ x ∈ c.take i.toNat, rq d ≤ rq x) →
   ∃ d' : B, y3f c k n i d.fR.fN d.fR.fD = k d'.fR.fN d'.fR.fD ∧ d' ∈ c ∧ ∀ x ∈ c, rq d' ≤ rq x
 | 0, i, d, h0, h1, h2, hd, hm => by omega
 | n + 1, i, d, h0, h1, h2, hd, hm => by
  rw [y3f]
  by_cases h : i < c.length
  ·rw [if_pos (decide_eq_true h)]
   refine y3o (P := fun o => ∃ d' : B, o = k d'.fR.fN d'.fR.fD ∧ d' ∈ c ∧ ∀ x ∈ c, rq d' ≤ rq x) fun k1 hk1 => ?_
   rw [ym ⟨h0, h⟩, ym ⟨h0, h⟩]
   have hx := y1j h0 h
   have e : (yE (nth c i).fR d.fR) = some (y3K (rq (nth c i)) (rq d)) := rcmpr (hc _ hx) (hc _ hd)
   refine (show ∀ o, (∃ d' : B, Option.bind o (fun x => if decide (x < 0) then k1 (nth c i).fR.fN (nth c i).fR.fD else k1 d.fR.fN d.fR.fD) = k d'.fR.fN d'.fR.fD ∧ d' ∈ c ∧ ∀ x ∈ c, rq d' ≤ rq x) → o = yE (nth c i).fR d.fR → ∃ d' : B, Option.bind (yE (nth c i).fR d.fR) (fun x => if decide (x < 0) then k1 (nth c i).fR.fN (nth c i).fR.fD else k1 d.fR.fN d.fR.fD) = k d'.fR.fN d'.fR.fD ∧ d' ∈ c ∧ ∀ x ∈ c, rq d' ≤ rq x from fun o h ho => by rw [← ho]; exact h) _ ?_ e.symm
   rw [Option.bind_some, hk1, hk1, yq (by omega)]
   by_cases hlt : rq (nth c i) < rq d
   ·rw [if_pos (decide_eq_true (y3W.2 hlt))]
    refine y7A hc hs n (i + 1) (nth c i) (by omega) (by omega) (by omega) hx fun x hx' => ?_
    rcases (y2N h0 h).1 hx' with h3 | rfl
    ·exact Rat.le_trans (Rat.le_of_lt hlt) (hm x h3)
    ·exact Rat.le_refl
   ·rw [if_neg (fun h => hlt (y3W.1 (of_decide_eq_true h)))]
    refine y7A hc hs n (i + 1) d (by omega) (by omega) (by omega) hd fun x hx' => ?_
    rcases (y2N h0 h).1 hx' with h3 | rfl
    ·exact hm x h3
    ·exact Rat.not_lt.1 hlt
  ·rw [if_neg (by simpa using h)]
   refine ⟨d, rfl, hd, fun x hx => hm x ?_⟩
   rwa [List.take_of_length_le (by omega)]
theorem rrate_eq (c : List B) : y4u c = y2C c := by
 cases h : VC c with
 | true =>
  obtain ⟨d, e, hd, hle⟩ := ybK h
  have hl := y7g h
  rw [e]
  unfold y4u
  rw [y7l, h]
  simp only [Option.bind_some, Bool.not_true, Bool.false_eq_true, if_false]
  rw [ym (by omega)]
  refine y3o (P := fun o => o = _) fun k hk => ?_
  obtain ⟨d', e', hd', hle'⟩ := y7A (k := k) (y55 h) (by omega) yu 1 (nth c 0) (by omega) (by omega) (by rw [yU]; omega) (y1j (by omega) (by omega)) (by
   intro x hx
   have h1 : (1 : Int) = 0 + 1 := rfl
   rw [h1] at hx
   rcases (y2N (by omega) (by omega)).1 hx with h3 | rfl
   ·simp at h3
   ·exact Rat.le_refl)
  rw [e', hk]
  have : d'.fR = d.fR := y8X (y2I (y5s (y55 h _ hd'))) (y2I (y5s (y55 h _ hd))) (Rat.le_antisymm (hle' _ hd) (hle _ hd'))
  rw [← this]
 | false =>
  unfold y4u y2C
  rw [y7l, y4k, h]
  rfl
end Go.Proofs.YtakfmdiiehcbdaaGreat
