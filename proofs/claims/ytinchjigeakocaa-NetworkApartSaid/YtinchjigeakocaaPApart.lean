/- A part of this claim's proof: models of functions, walks, plain laws. No conditions. -/
import Derived.Test.YtinchjigeakocaaP31k
import Derived.Test.YtinchjigeakocaaWNetworkApart
namespace Go.Proofs.Ytinchjigeakocaa
open Go Go.RowKit Sep
set_option linter.all false
def y3o (g i : Int) : Int := bits .and .u16 (g / 2 ^ min (i : Int).toNat 16) 1
theorem ya3 (g i : Int) : y3o g i = 0 ∨ y3o g i = 1 := by
 unfold y3o
 generalize g / 2 ^ min (i : Int).toNat 16 = x
 have h2 : (BitVec.ofInt 16 x &&& BitVec.ofInt 16 1).toNat ≤ 1 := by
  rw [BitVec.toNat_and]; exact Nat.and_le_right
 change IntKind.wrap .u16 ((BitVec.ofInt 16 x &&& BitVec.ofInt 16 1).toNat : Int) = 0 ∨ IntKind.wrap .u16 ((BitVec.ofInt 16 x &&& BitVec.ofInt 16 1).toNat : Int) = 1
 generalize (BitVec.ofInt 16 x &&& BitVec.ofInt 16 1).toNat = q at h2 ⊢
 have : q = 0 ∨ q = 1 := by omega
 rcases this with rfl | rfl
 ·exact .inl rfl
 ·exact .inr rfl
theorem y9E {κ R : Type} [DecidableEq R] {l : List κ} {z V : Option R} {f : κ → List κ → Option R} (hz : l = [] → z = V) (h : ∀ i x, l[i]? = some x → f x (l.eraseIdx i) = V) : y7R l z f = V := by
 cases l with
 | nil => exact hz rfl
 | cons e t =>
  have h0 : f e t = V := h 0 e rfl
  unfold y7R
  simp only
  rw [if_pos, h0]
  rw [List.all_eq_true]
  intro i hi
  have hi' := List.mem_range.1 hi
  have hlt : i < (e :: t).length := by rw [List.length_cons]; exact hi'
  rw [decide_eq_true_eq, List.getElem?_eq_getElem hlt, Option.map_some, h i _ (List.getElem?_eq_getElem hlt), h0]
theorem y8R {κ : Type} {l : List κ} {i : Nat} {x : κ} (h : l[i]? = some x) (p : κ) : p ∈ l ↔ p = x ∨ p ∈ l.eraseIdx i := by
 obtain ⟨hi, hx⟩ := List.getElem?_eq_some_iff.1 h
 have : l = l.take i ++ x :: l.drop (i + 1) := by rw [← hx, List.getElem_cons_drop, List.take_append_drop]
 rw [List.eraseIdx_eq_take_drop_succ]
 conv => lhs; rw [this]
 simp only [List.mem_append, List.mem_cons]
 constructor
 ·rintro (h | h | h)
  ·exact .inr (.inl h)
  ·exact .inl h
  ·exact .inr (.inr h)
 ·rintro (h | h | h)
  ·exact .inr (.inl h)
  ·exact .inl h
  ·exact .inr (.inr h)
open Classical in
theorem ap_L11 {k0 : Option Bool} {m : List (S51 × Int)} : ∀ (n : Nat) (rem : List (S51 × Int)), rem.length < n → y1q k0 m n rem = if ∃ p ∈ rem, 0 < yp m p.1 0 then some true else k0
 | 0, rem, h => by omega
 | n + 1, rem, h => by
  rw [y1q]
  refine y9E (fun hz => ?_) fun i x hx => ?_
  ·subst hz; rw [if_neg (by simp)]
  ·obtain ⟨hi, _⟩ := List.getElem?_eq_some_iff.1 hx
   by_cases hp : 0 < yp m x.1 0
   ·rw [if_pos (decide_eq_true hp), y6G, Option.bind_some, if_pos ⟨x, List.mem_of_getElem? hx, hp⟩]
   ·rw [if_neg (by simpa using hp), ap_L11 n _ (by rw [List.length_eraseIdx_of_lt hi]; omega)]
    have : (∃ p ∈ rem.eraseIdx i, 0 < yp m p.1 0) ↔ ∃ p ∈ rem, 0 < yp m p.1 0 := by
     constructor
     ·rintro ⟨p, h1, h2⟩; exact ⟨p, (y8R hx p).2 (.inr h1), h2⟩
     ·rintro ⟨p, h1, h2⟩
      rcases (y8R hx p).1 h1 with rfl | h1
      ·exact absurd h2 hp
      ·exact ⟨p, h1, h2⟩
    simp only [this]
/-! ### the two groups' ports -/
def exK (h : Hop) : S51 := ⟨h.fNode, h.fLink⟩
def KA (m : List (S51 × Int)) (E : List S51) (N : Int) : Prop := (∀ q ∈ E, ∃ p ∈ m, p.1 = q) ∧ m.length ≤ N
def KB (m : List (S51 × Int)) (E : List S51) (N : Int) : Prop := ∀ q, 0 ≤ yp m q 0 ∧ yp m q 0 ≤ N ∧ (q ∈ E → 0 < yp m q 0)
theorem y6K {κ γ : Type} [DecidableEq κ] {k : κ} {u : γ} : ∀ (l : List (κ × γ)) (q : κ), (q = k ∨ ∃ p ∈ l, p.1 = q) → ∃ p ∈ yE l k u, p.1 = q
 | [], q, h => by
  rcases h with rfl | ⟨p, h, _⟩
  ·exact ⟨_, List.mem_cons_self .., rfl⟩
  ·simp at h
 | a :: l, q, h => by
  unfold yE
  by_cases hk : k = a.1
  ·rw [if_pos hk]
   rcases h with rfl | ⟨p, h, h2⟩
   ·exact ⟨_, List.mem_cons_self .., hk.symm⟩
   ·rcases List.mem_cons.1 h with rfl | h
    ·exact ⟨_, List.mem_cons_self .., h2⟩
    ·exact ⟨p, List.mem_cons_of_mem _ h, h2⟩
  ·rw [if_neg hk]
   rcases h with rfl | ⟨p, h, h2⟩
   ·obtain ⟨p, h1, h2⟩ := y6K (u := u) l q (.inl rfl)
    exact ⟨p, List.mem_cons_of_mem _ h1, h2⟩
   ·rcases List.mem_cons.1 h with rfl | h
    ·exact ⟨_, List.mem_cons_self .., h2⟩
    ·obtain ⟨p, h1, h2⟩ := y6K (u := u) (k := k) l q (.inr ⟨p, h, h2⟩)
     exact ⟨p, List.mem_cons_of_mem _ h1, h2⟩
theorem y7s {κ γ : Type} [DecidableEq κ] {k : κ} {u : γ} : ∀ (l : List (κ × γ)), (yE l k u).length ≤ l.length + 1
 | [] => by simp [yE]
 | a :: l => by
  unfold yE
  split
  ·simp
  ·have := y7s (k := k) (u := u) l
   simp only [List.length_cons]; omega
theorem KA.put {m : List (S51 × Int)} {E : List S51} {N : Int} (h : KA m E N) (k : S51) (u : Int) : KA (yE m k u) (k :: E) (N + 1) := by
 refine ⟨fun q hq => ?_, by have := y7s (k := k) (u := u) m; have := h.2; omega⟩
 rcases List.mem_cons.1 hq with rfl | hq
 ·exact y6K m q (.inl rfl)
 ·exact y6K m q (.inr (h.1 q hq))
theorem KA.le {m : List (S51 × Int)} {E : List S51} {N M : Int} (h : KA m E N) (hN : N ≤ M) : KA m E M := ⟨h.1, Int.le_trans h.2 hN⟩
theorem KB.put {m : List (S51 × Int)} {E : List S51} {N : Int} (h : KB m E N) (hN : N ≤ 1000000) (k : S51) : KB (yE m k (i64 (yp m k 0 + 1))) (k :: E) (N + 1) := by
 intro q
 have hk := h k
 rw [ym (by omega)]
 by_cases e : q = k
 ·subst e; rw [y5o]; exact ⟨by omega, by omega, fun _ => by omega⟩
 ·rw [y5n e]
  have := h q
  exact ⟨this.1, by omega, fun hq => this.2.2 ((List.mem_cons.1 hq).resolve_left e)⟩
theorem KB.le {m : List (S51 × Int)} {E : List S51} {N M : Int} (h : KB m E N) (hN : N ≤ M) : KB m E M := fun q => ⟨(h q).1, Int.le_trans (h q).2.1 hN, (h q).2.2⟩
theorem y9r {rs : List (List Hop)} {vo gr : Int} {k : List (S51 × Int) → List (S51 × Int) → Option Bool} (h0 : 0 ≤ vo) (hr : (nth rs vo).length ≤ 40) : ∀ (n : Nat) (v : Int) (m1 m2 : List (S51 × Int)) (E1 E0 : List S51) (N : Int), 0 ≤ v → v ≤ (nth rs vo).length → (nth rs vo).length < n + v → KA m1 E1 N → KB m2 E0 N → N + (40 - v) ≤ 1000000 →
  ∃ m1' m2' F1 F0, y1p rs vo gr k n v m1 m2 = k m1' m2' ∧ KA m1' F1 (N + ((nth rs vo).length - v)) ∧ KB m2' F0 (N + ((nth rs vo).length - v)) ∧ (∀ q ∈ E1, q ∈ F1) ∧ (∀ q ∈ E0, q ∈ F0) ∧ ∀ h ∈ (nth rs vo).drop v.toNat, if y3o gr vo = 1 then exK h ∈ F1 else exK h ∈ F0
 | 0, v, m1, m2, E1, E0, N, a0, a1, a2, a3, a4, a5 => by omega
 | n + 1, v, m1, m2, E1, E0, N, a0, a1, a2, a3, a4, a5 => by
  rw [y1p]
  by_cases h : v < (nth rs vo).length
  ·rw [if_pos (decide_eq_true h)]
   refine y3y (P := fun o => ∃ m1' m2' F1 F0, o = k m1' m2' ∧ KA m1' F1 (N + ((nth rs vo).length - v)) ∧ KB m2' F0 (N + ((nth rs vo).length - v)) ∧ (∀ q ∈ E1, q ∈ F1) ∧ (∀ q ∈ E0, q ∈ F0) ∧ ∀ h ∈ (nth rs vo).drop v.toNat, if y3o gr vo = 1 then exK h ∈ F1 else exK h ∈ F0) fun kk hkk => ?_
   rw [yn ⟨a0, h⟩, yn h0, y3n a0 h]
   show ∃ m1' m2' F1 F0, (if decide (y3o gr vo = 1) = true then _ else _) = k m1' m2' ∧ _
   by_cases hb : y3o gr vo = 1
   ·rw [if_pos (decide_eq_true hb), hkk, ym (x := v + 1) (by omega)]
    obtain ⟨m1', m2', F1, F0, b1, b2, b3, b4, b5, b6⟩ := y9r (k := k) (gr := gr) h0 hr n (v + 1) _ m2 _ E0 (N + 1) (by omega) (by omega) (by omega) (a3.put (exK (nth (nth rs vo) v)) (i64 (yp m1 (exK (nth (nth rs vo) v)) 0 + 1))) (a4.le (by omega)) (by omega)
    refine ⟨m1', m2', F1, F0, b1, b2.le (by omega), b3.le (by omega), fun q hq => b4 q (List.mem_cons_of_mem _ hq), b5, fun x hx => ?_⟩
    rw [if_pos hb]
    rcases List.mem_cons.1 hx with rfl | hx
    ·exact b4 _ (List.mem_cons_self ..)
    ·have := b6 x (by rw [show (v + 1).toNat = v.toNat + 1 by omega]; exact hx)
     rwa [if_pos hb] at this
   ·rw [if_neg (by simpa using hb), hkk, ym (x := v + 1) (by omega)]
    obtain ⟨m1', m2', F1, F0, b1, b2, b3, b4, b5, b6⟩ := y9r (k := k) (gr := gr) h0 hr n (v + 1) m1 _ E1 _ (N + 1) (by omega) (by omega) (by omega) (a3.le (by omega)) (a4.put (by omega) (exK (nth (nth rs vo) v))) (by omega)
    refine ⟨m1', m2', F1, F0, b1, b2.le (by omega), b3.le (by omega), b4, fun q hq => b5 q (List.mem_cons_of_mem _ hq), fun x hx => ?_⟩
    rw [if_neg hb]
    rcases List.mem_cons.1 hx with rfl | hx
    ·exact b5 _ (List.mem_cons_self ..)
    ·have := b6 x (by rw [show (v + 1).toNat = v.toNat + 1 by omega]; exact hx)
     rwa [if_neg hb] at this
  ·rw [if_neg (by simpa using h), List.drop_eq_nil_of_le (by omega)]
   exact ⟨m1, m2, E1, E0, rfl, a3.le (by omega), a4.le (by omega), fun _ h => h, fun _ h => h, by simp⟩
theorem ap_L9 {rs : List (List Hop)} {gr : Int} {k : List (S51 × Int) → List (S51 × Int) → Option Bool} (hr : ∀ r ∈ rs, r.length ≤ 40) (hl : rs.length ≤ 20) : ∀ (n : Nat) (v : Int) (m1 m2 : List (S51 × Int)) (E1 E0 : List S51), 0 ≤ v → v ≤ rs.length → rs.length < n + v → KA m1 E1 (40 * v) → KB m2 E0 (40 * v) →
  ∃ m1' m2' F1 F0, y1C rs gr k n v m1 m2 = k m1' m2' ∧ KA m1' F1 1000 ∧ KB m2' F0 1000 ∧ (∀ q ∈ E1, q ∈ F1) ∧ (∀ q ∈ E0, q ∈ F0) ∧ ∀ i : Int, v ≤ i → i < rs.length → ∀ h ∈ nth rs i, if y3o gr i = 1 then exK h ∈ F1 else exK h ∈ F0
 | 0, v, m1, m2, E1, E0, a0, a1, a2, a3, a4 => by omega
 | n + 1, v, m1, m2, E1, E0, a0, a1, a2, a3, a4 => by
  rw [y1C]
  by_cases h : v < rs.length
  ·rw [if_pos (decide_eq_true h)]
   refine y3y (P := fun o => ∃ m1' m2' F1 F0, o = k m1' m2' ∧ KA m1' F1 1000 ∧ KB m2' F0 1000 ∧ (∀ q ∈ E1, q ∈ F1) ∧ (∀ q ∈ E0, q ∈ F0) ∧ ∀ i : Int, v ≤ i → i < rs.length → ∀ h ∈ nth rs i, if y3o gr i = 1 then exK h ∈ F1 else exK h ∈ F0) fun kk hkk => ?_
   rw [yn ⟨a0, h⟩]
   refine y3y (P := fun o => ∃ m1' m2' F1 F0, o = k m1' m2' ∧ KA m1' F1 1000 ∧ KB m2' F0 1000 ∧ (∀ q ∈ E1, q ∈ F1) ∧ (∀ q ∈ E0, q ∈ F0) ∧ ∀ i : Int, v ≤ i → i < rs.length → ∀ h ∈ nth rs i, if y3o gr i = 1 then exK h ∈ F1 else exK h ∈ F0) fun k2 hk2 => ?_
   have hlen := hr _ (y48 a0 h)
   obtain ⟨p1, p2, G1, G0, b1, b2, b3, b4, b5, b6⟩ := y9r (k := k2) (gr := gr) (rs := rs) a0 hlen ys 0 m1 m2 E1 E0 (40 * v) (by omega) (by omega) (by rw [y1d]; omega) a3 a4 (by omega)
   rw [b1, hk2, hkk, ym (x := v + 1) (by omega)]
   obtain ⟨q1, q2, F1, F0, c1, c2, c3, c4, c5, c6⟩ := ap_L9 (k := k) (gr := gr) hr hl n (v + 1) p1 p2 G1 G0 (by omega) (by omega) (by omega) (b2.le (by omega)) (b3.le (by omega))
   refine ⟨q1, q2, F1, F0, c1, c2, c3, fun q hq => c4 q (b4 q hq), fun q hq => c5 q (b5 q hq), fun i h1 h2 x hx => ?_⟩
   by_cases e : i = v
   ·subst e
    have := b6 x (by simpa using hx)
    by_cases hb : y3o gr i = 1
    ·rw [if_pos hb] at this ⊢; exact c4 _ this
    ·rw [if_neg hb] at this ⊢; exact c5 _ this
   ·exact c6 i (by omega) h2 x hx
  ·rw [if_neg (by simpa using h)]
   exact ⟨m1, m2, E1, E0, rfl, a3.le (by omega), a4.le (by omega), fun _ h => h, fun _ h => h, fun i h1 h2 => by omega⟩
/-! ### the part of a side -/
def y1O (gr side : Int) : Int → Bool := fun i => decide (y3o gr i = side)
theorem ya4 (gr i : Int) : i64 (y3o gr i) = y3o gr i := ym (by have := ya3 gr i; omega)
theorem yau (b : Int → Bool) (sent : List Snt) (v : Nat) : y5b b sent (v + 1) = y5b b sent v ++ if b (nth sent (v : Int)).fVL = true then [(v : Int)] else [] := by
 unfold y5b
 rw [List.range_succ, List.filter_append, List.map_append]
 congr 1
 rw [List.filter_cons]
 split <;> rfl
theorem idxs_len (b : Int → Bool) (sent : List Snt) (v : Nat) : (y5b b sent v).length ≤ v := by
 unfold y5b
 rw [List.length_map]
 exact Nat.le_trans (List.length_filter_le _ _) (by simp)
theorem yav (b : Int → Bool) (sent : List Snt) {v : Int} (h0 : 0 ≤ v) (h : v < sent.length) : y1e b (sent.take (v + 1).toNat) = y1e b (sent.take v.toNat) ++ if b (nth sent v).fVL = true then [nth sent v] else [] := by
 unfold y1e
 rw [y8w sent h0 h, List.filter_append]
 congr 1
 rw [List.filter_cons]
 split <;> rfl
theorem ap_L13 {sent : List Snt} {gr side : Int} {k : List Snt → List Int → Option Bool} (hl : sent.length ≤ 40) (hv : ∀ i : Int, 0 ≤ i → i < sent.length → 0 ≤ (nth sent i).fVL) : ∀ (n : Nat) (v : Int), 0 ≤ v → v ≤ sent.length → sent.length < n + v →
  y1r sent gr side k n (y1e (y1O gr side) (sent.take v.toNat)) (y5b (y1O gr side) sent v.toNat) v = k (y1e (y1O gr side) sent) (bkS (y1O gr side) sent)
 | 0, v, h0, h1, h2 => by omega
 | n + 1, v, h0, h1, h2 => by
  rw [y1r]
  by_cases h : v < sent.length
  ·rw [if_pos (decide_eq_true h)]
   have ih := ap_L13 (side := side) (gr := gr) (k := k) hl hv n (v + 1) (by omega) (by omega) (by omega)
   rw [yav _ _ h0 h, show (v + 1).toNat = v.toNat + 1 by omega, yau, Int.toNat_of_nonneg h0] at ih
   refine y3y (P := fun o => o = k (y1e (y1O gr side) sent) (bkS (y1O gr side) sent)) fun kk hkk => ?_
   rw [yn ⟨h0, h⟩, yn (hv v h0 h)]
   show (if decide (i64 (y3o gr (nth sent v).fVL) = side) = true then _ else _) = _
   rw [ya4]
   have l1 : (y1e (y1O gr side) (sent.take v.toNat)).length ≤ 40 := by
    unfold y1e
    exact Nat.le_trans (List.length_filter_le _ _) (by rw [List.length_take]; omega)
   have l2 := idxs_len (y1O gr side) sent v.toNat
   by_cases hb : y3o gr (nth sent v).fVL = side
   ·rw [if_pos (show y1O gr side (nth sent v).fVL = true from decide_eq_true hb), if_pos (show y1O gr side (nth sent v).fVL = true from decide_eq_true hb)] at ih
    rw [if_pos (decide_eq_true hb), yn (by simp; omega), yn (by simp; omega), hkk, ym (x := v + 1) (by omega)]
    exact ih
   ·rw [if_neg (show ¬ y1O gr side (nth sent v).fVL = true by unfold y1O; simpa using hb), if_neg (show ¬ y1O gr side (nth sent v).fVL = true by unfold y1O; simpa using hb), List.append_nil, List.append_nil] at ih
    rw [if_neg (by simpa using hb), hkk, ym (x := v + 1) (by omega)]
    exact ih
  ·rw [if_neg (by simpa using h)]
   have : v.toNat = sent.length := by omega
   rw [this, List.take_length]; rfl
theorem y9s {V : List S67} {vv : Int} {sent : List Snt} {gr side : Int} {k : List Cm → Option Bool} (hl : (nth V vv).fAll.length ≤ 1280) (hx : ∀ x ∈ (nth V vv).fAll, 0 ≤ x.fSent ∧ x.fSent < (sent.length : Int)) (hv : ∀ i : Int, 0 ≤ i → i < sent.length → 0 ≤ (nth sent i).fVL) : ∀ (n : Nat) (v : Int) (o : List Cm), 0 ≤ v → v ≤ (nth V vv).fAll.length → (nth V vv).fAll.length < n + v → o.length ≤ v →
  y1s V vv sent gr side k n o v = k (o ++ ((nth V vv).fAll.drop v.toNat).filter (onC (y1O gr side) sent))
 | 0, v, o, h0, h1, h2, h3 => by omega
 | n + 1, v, o, h0, h1, h2, h3 => by
  rw [y1s]
  by_cases h : v < (nth V vv).fAll.length
  ·rw [if_pos (decide_eq_true h)]
   have hxx := hx _ (y48 h0 h)
   refine y1H (P := fun p => p = k (o ++ ((nth V vv).fAll.drop v.toNat).filter (onC (y1O gr side) sent))) fun kk hkk => ?_
   rw [yn ⟨h0, h⟩, yn hxx, yn (hv _ hxx.1 hxx.2)]
   show (if decide (i64 (y3o gr (nth sent (nth (nth V vv).fAll v).fSent).fVL) = side) = true then _ else _) = _
   rw [ya4, y3n h0 h, List.filter_cons]
   by_cases hb : y3o gr (nth sent (nth (nth V vv).fAll v).fSent).fVL = side
   ·rw [if_pos (decide_eq_true hb), yn (by simp; omega), hkk, ym (x := v + 1) (by omega), y9s hl hx hv n (v + 1) _ (by omega) (by omega) (by omega) (by simp; omega), if_pos (show onC (y1O gr side) sent _ = true from decide_eq_true hb), show (v + 1).toNat = v.toNat + 1 by omega]
    rw [List.append_assoc]; rfl
   ·rw [if_neg (by simpa using hb), hkk, ym (x := v + 1) (by omega), y9s hl hx hv n (v + 1) _ (by omega) (by omega) (by omega) (by omega), if_neg (show ¬ onC (y1O gr side) sent _ = true by unfold onC y1O; simpa using hb), show (v + 1).toNat = v.toNat + 1 by omega]
  ·rw [if_neg (by simpa using h), List.drop_eq_nil_of_le (by omega)]
   simp
theorem ap_L16 {V : List S67} {vv : Int} {B : List Int} {k : List Cm → Option Bool} (hl : (nth V vv).fOwn.length ≤ 1280) (hx : ∀ x ∈ (nth V vv).fOwn, 0 ≤ x.fSent ∧ x.fSent < (B.length : Int)) : ∀ (n : Nat) (v : Int) (o : List Cm), 0 ≤ v → v ≤ (nth V vv).fOwn.length → (nth V vv).fOwn.length < n + v → o.length ≤ v →
  y1t V vv B k n o v = k (o ++ ((nth V vv).fOwn.drop v.toNat).map (mvC B))
 | 0, v, o, h0, h1, h2, h3 => by omega
 | n + 1, v, o, h0, h1, h2, h3 => by
  rw [y1t]
  by_cases h : v < (nth V vv).fOwn.length
  ·have hxx := hx _ (y48 h0 h)
   rw [if_pos (decide_eq_true h), yn ⟨h0, h⟩, if_neg (by simp only [Bool.or_eq_true, decide_eq_true_eq]; omega), yn hxx, yn (by simp; omega), ym (x := v + 1) (by omega), ap_L16 hl hx n (v + 1) _ (by omega) (by omega) (by omega) (by simp; omega), y3n h0 h, show (v + 1).toNat = v.toNat + 1 by omega]
   rw [List.map_cons, List.append_assoc]; rfl
  ·rw [if_neg (by simpa using h), List.drop_eq_nil_of_le (by omega)]
   simp
theorem ap_L14 {come lost : List Cm} {X : List Cm × List Cm × Int} {B : List Int} {sent : List Snt} {gr side : Int} {k : Option Bool} {V : List S67} (hV : V = [⟨come, X.1⟩, ⟨lost, X.2.1⟩]) (hc : come.length ≤ 1280) (hl : lost.length ≤ 1280) (hx : X.1.length ≤ 1280) (hy : X.2.1.length ≤ 1280)
  (sc : ∀ x ∈ come, 0 ≤ x.fSent ∧ x.fSent < (sent.length : Int)) (sl : ∀ x ∈ lost, 0 ≤ x.fSent ∧ x.fSent < (sent.length : Int)) (sx : ∀ x ∈ X.1, 0 ≤ x.fSent ∧ x.fSent < (B.length : Int)) (sy : ∀ x ∈ X.2.1, 0 ≤ x.fSent ∧ x.fSent < (B.length : Int))
  (hv : ∀ i : Int, 0 ≤ i → i < sent.length → 0 ≤ (nth sent i).fVL) (e1 : come.filter (onC (y1O gr side) sent) = X.1.map (mvC B)) (e2 : lost.filter (onC (y1O gr side) sent) = X.2.1.map (mvC B)) :
  ∀ (n : Nat) (v : Int), 0 ≤ v → v ≤ 2 → 2 < n + v → y1u come X lost B sent gr side k n V v = k
 | 0, v, h0, h1, h2 => by omega
 | n + 1, v, h0, h1, h2 => by
  rw [y1u]
  by_cases h : v < 2
  ·rw [if_pos (decide_eq_true (by simpa using h))]
   refine y30 (P := fun o => o = k) fun k1 hk1 => ?_
   rw [yn ⟨h0, by rw [hV]; simpa using h⟩]
   have hn : (nth V v = ⟨come, X.1⟩ ∨ nth V v = ⟨lost, X.2.1⟩) := by
    rw [hV]
    have : v = 0 ∨ v = 1 := by omega
    rcases this with rfl | rfl
    ·exact .inl rfl
    ·exact .inr rfl
   have q1 : (nth V v).fAll.length ≤ 1280 := by rcases hn with e | e <;> rw [e] <;> assumption
   have q2 : (nth V v).fOwn.length ≤ 1280 := by rcases hn with e | e <;> rw [e] <;> assumption
   have q3 : ∀ x ∈ (nth V v).fAll, 0 ≤ x.fSent ∧ x.fSent < (sent.length : Int) := by rcases hn with e | e <;> rw [e] <;> assumption
   have q4 : ∀ x ∈ (nth V v).fOwn, 0 ≤ x.fSent ∧ x.fSent < (B.length : Int) := by rcases hn with e | e <;> rw [e] <;> assumption
   have q5 : (nth V v).fAll.filter (onC (y1O gr side) sent) = (nth V v).fOwn.map (mvC B) := by rcases hn with e | e <;> rw [e] <;> assumption
   refine y1H (P := fun o => o = k) fun k2 hk2 => ?_
   rw [y9s q1 q3 hv ys 0 [] (by omega) (by omega) (by rw [y1d]; omega) (by simp), hk2]
   refine y1H (P := fun o => o = k) fun k3 hk3 => ?_
   rw [ap_L16 q2 q4 ys 0 [] (by omega) (by omega) (by rw [y1d]; omega) (by simp), hk3]
   simp only [Int.toNat_zero, List.drop_zero, List.nil_append]
   rw [Same_eq (by have := List.length_filter_le (onC (y1O gr side) sent) (nth V v).fAll; omega), q5]
   simp only [decide_true, Option.bind_some, Bool.not_true, Bool.false_eq_true, if_false]
   rw [hk1, ym (x := v + 1) (by omega)]
   exact ap_L14 hV hc hl hx hy sc sl sx sy hv e1 e2 n (v + 1) (by omega) (by omega) (by omega)
  ·rw [if_neg (by simpa using h)]
section
variable {c : Cf} {net : Int} {rs : List (List Hop)} {sent : List Snt}
theorem ap_L12 (g : Sg c net rs sent) {gr : Int} {k : Option Bool} {come lost : List Cm} (hrun : RunsTo c rs sent come lost) (hdis : ∀ side : Int, side = 0 ∨ side = 1 → ∀ q, UK rs (y1e (y1O gr side) sent) q → ∀ s h, (0 ≤ s ∧ s < (sent.length : Int)) → ¬ y1O gr side (nth sent s).fVL = true → h ∈ route rs sent s → yv h ≠ q) :
  ∀ (n : Nat) (v : Int), 0 ≤ v → v ≤ 2 → 2 < n + v → y1v c net rs sent gr k n come lost v = k
 | 0, v, h0, h1, h2 => by omega
 | n + 1, v, h0, h1, h2 => by
  rw [y1v]
  have hv : ∀ i : Int, 0 ≤ i → i < sent.length → 0 ≤ (nth sent i).fVL := fun i i0 i1 => (g.fr.each i i0 i1).2.2.1
  by_cases h : v < 2
  ·rw [if_pos (decide_eq_true h)]
   refine y30 (P := fun o => o = k) fun k1 hk1 => ?_
   refine y3y (P := fun o => o = k) fun k2 hk2 => ?_
   have h13 := ap_L13 (side := v) (gr := gr) (k := k2) g.fr.len hv ys 0 (by omega) (by omega) (by have := g.fr.len; rw [y1d]; omega)
   rw [show y1e (y1O gr v) (sent.take (0 : Int).toNat) = [] from rfl, show y5b (y1O gr v) sent (0 : Int).toNat = [] from rfl] at h13
   rw [h13, hk2]
   obtain ⟨x, y, r, e⟩ := Run_eq (g.part (y1O gr v))
   rw [e, Option.bind_some, if_neg (by simp)]
   refine y30 (P := fun o => o = k) fun k3 hk3 => ?_
   obtain ⟨p1, p2⟩ := yat g (hdis v (by omega)) hrun r
   have hlen := hrun.len
   have hlen2 := r.len
   obtain ⟨s1, s2⟩ := hrun.sents g
   obtain ⟨s3, s4⟩ := r.sents (g.part _)
   rw [y6H] at s3 s4
   rw [ap_L14 (X := (x, y, 0)) rfl (by omega) (by omega) (by show x.length ≤ _; omega) (by show y.length ≤ _; omega) s1 s2 s3 s4 hv p1 p2 ys 0 (by omega) (by omega) (by rw [y1d]; omega), hk3, hk1, ym (x := v + 1) (by omega)]
   exact ap_L12 g hrun hdis n (v + 1) (by omega) (by omega) (by omega)
  ·rw [if_neg (by simpa using h)]
end
theorem y7K {c : Cf} {net : Int} {rs : List (List Hop)} {sent : List Snt} {gr : Int} (hs : (sent.length : Int) ≤ 9223372036854775807) (_hg : 0 ≤ gr ∧ gr ≤ 65535) : y35 c net rs sent gr = some true := by
 unfold y35
 obtain ⟨q, h1, h2⟩ := lfine_eq (c := c) (net := net) (rs := rs) (sent := sent) hs
 rw [h1]
 simp only [Option.bind_some]
 cases q with
 | false => rw [if_pos (by rfl), y6G]; rfl
 | true =>
  obtain ⟨hf, g⟩ := h2.1 rfl
  rw [if_neg (by simp)]
  refine y3y (P := fun o => o = some true) fun k hk => ?_
  obtain ⟨m1, m2, F1, F0, b1, b2, b3, _, _, b6⟩ := ap_L9 (k := k) (gr := gr) (rs := rs) hf.e hf.r ys 0 [] [] [] [] (by omega) (by omega) (by have := hf.r; rw [y1d]; omega) ⟨fun q hq => by simp at hq, by simp⟩ (fun q => by simp [yp])
  rw [b1, hk]
  refine y30 (P := fun o => o = some true) fun k1 hk1 => ?_
  -- the keys of the first group: at most as many as the fuel
  have hm1 : m1.length < ys := by have := b2.2; rw [y1d]; omega
  rw [ap_L11 ys m1 hm1]
  split
  ·rfl
  ·rename_i hno
   rw [hk1]
   obtain ⟨come, lost, r, e⟩ := Run_eq g
   rw [e, Option.bind_some, if_neg (by simp)]
   refine y30 (P := fun o => o = some true) fun k2 hk2 => ?_
   have hapart : ∀ i j : Int, 0 ≤ i → i < rs.length → 0 ≤ j → j < rs.length → y3o gr i = 1 → y3o gr j ≠ 1 → ∀ x ∈ nth rs i, ∀ y ∈ nth rs j, exK x ≠ exK y := by
    intro i j i0 i1 j0 j1 bi bj x hx y hy he
    have hx' := b6 i i0 i1 x hx
    rw [if_pos bi] at hx'
    have hy' := b6 j j0 j1 y hy
    rw [if_neg bj] at hy'
    obtain ⟨p, hp, hpe⟩ := b2.1 _ hx'
    exact hno ⟨p, hp, by rw [hpe, he]; exact (b3 _).2.2 hy'⟩
   have hdis : ∀ side : Int, side = 0 ∨ side = 1 → ∀ q, UK rs (y1e (y1O gr side) sent) q → ∀ s h, (0 ≤ s ∧ s < (sent.length : Int)) → ¬ y1O gr side (nth sent s).fVL = true → h ∈ route rs sent s → yv h ≠ q := by
    rintro side hsd q ⟨t, x, ht, hx, rfl⟩ s h hs' hb hh he
    have hb' : y3o gr (nth sent s).fVL ≠ side := by unfold y1O at hb; simpa using hb
    rw [y8a ht] at hx
    have ha := y6I ht
    have ha' : y3o gr (nth sent (nth (bkS (y1O gr side) sent) t)).fVL = side := of_decide_eq_true ha.2.2.1
    have v1 := g.vl hs'
    have v2 := g.vl ⟨ha.1, ha.2.1⟩
    have hxy : exK h = exK x := by
     have := congrArg (fun z : Ex => (⟨z.fNode, z.fLink⟩ : S51)) he
     exact this
    rcases hsd with rfl | rfl
    ·have hb1 : y3o gr (nth sent s).fVL = 1 := (ya3 gr _).resolve_left hb'
     exact hapart _ _ v1.1 v1.2 v2.1 v2.2 hb1 (by omega) h hh x hx hxy
    ·exact hapart _ _ v2.1 v2.2 v1.1 v1.2 ha' hb' x hx h hh hxy.symm
   rw [ap_L12 g r hdis ys 0 (by omega) (by omega) (by rw [y1d]; omega), hk2, y6G]; rfl
end Go.Proofs.Ytinchjigeakocaa
