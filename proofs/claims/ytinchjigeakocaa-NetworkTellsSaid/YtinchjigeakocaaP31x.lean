/- A part of this claim's proof: models of functions, walks, plain laws. No conditions. -/
import Derived.Test.YtinchjigeakocaaP31w
namespace Go.Proofs.Ytinchjigeakocaa
open Go Go.RowKit Sep
set_option linter.all false
/-! ### the reference's port -/
abbrev RPt := S90
def y47 (q : RPt) : List Fr := (q.fSize.zip q.fEnd).map fun x => ⟨x.1, x.2⟩
structure RP (q : RPt) (p : Pt) : Prop where
 slow : q.fSlow = p.fNumbers.fSlow
 delay : q.fDelay = p.fNumbers.fDelay
 store : q.fStore = p.fNumbers.fStore
 now : q.fNow = p.fNow
 l1 : q.fAt.length = q.fEnd.length
 l2 : q.fSize.length = q.fEnd.length
 at_ : ∀ x ∈ q.fAt, x ≤ p.fNow
 fr : y1o p.fNow (y47 q) = y1o p.fNow p.fFrames
 last : (q.fEnd = [] ∧ p.fLast = 0) ∨ ∃ l, q.fEnd = l ++ [p.fLast]
theorem y4s {t u : Int} (h : t ≤ u) (l : List Fr) : y1o u (y1o t l) = y1o u l := by
 unfold y1o
 rw [List.filter_filter]
 refine List.filter_congr fun x _ => ?_
 rw [Bool.eq_iff_iff]; simp only [Bool.and_eq_true, decide_eq_true_eq]; omega
theorem y8j {q : RPt} {t : Int} {k : Int → Option Int} (h1 : q.fAt.length = q.fEnd.length) (h2 : q.fSize.length = q.fEnd.length) (ha : ∀ x ∈ q.fAt, x ≤ t) (hs : ∀ x ∈ q.fSize, 1 ≤ x ∧ x ≤ 72) (hl : q.fEnd.length ≤ 100000) : ∀ (n : Nat) (s i : Int), 0 ≤ i → i ≤ q.fEnd.length → q.fEnd.length < n + i → 0 ≤ s → s ≤ 72 * i →
  y25 q t k n s i = k (s + y2E (y1o t ((y47 q).drop i.toNat)))
 | 0, s, i, h0, h3, h4, h5, h6 => by omega
 | n + 1, s, i, h0, h3, h4, h5, h6 => by
  rw [y25]
  have hh : (y47 q).length = q.fEnd.length := by unfold y47; rw [List.length_map, List.length_zip]; omega
  by_cases h : i < q.fEnd.length
  ·rw [if_pos (decide_eq_true (by omega))]
   refine y1h (P := fun o => o = k (s + y2E (y1o t ((y47 q).drop i.toNat)))) fun k1 hk1 => ?_
   have hA := ha _ (y4V (l := q.fAt) (i := i) h0 (by omega))
   have hS := hs _ (y4V (l := q.fSize) (i := i) h0 (by omega))
   have hd : (y47 q).drop i.toNat = ⟨nth q.fSize i, nth q.fEnd i⟩ :: (y47 q).drop (i.toNat + 1) := by
    rw [y39 (l := y47 q) h0 (by omega)]
    congr 1
    rw [y30 ⟨h0, by omega⟩, y30 (l := q.fSize) ⟨h0, by omega⟩, y30 (l := q.fEnd) ⟨h0, by omega⟩]
    unfold y47
    rw [List.getElem_map, List.getElem_zip]
   rw [yf ⟨h0, by omega⟩, yf (fun _ => ⟨h0, by omega⟩), hd, yo (x := i + 1) (by omega)] at *
   unfold y1o
   rw [List.filter_cons]
   by_cases e : nth q.fEnd i > t
   ·rw [if_pos (by simp only [Bool.and_eq_true, decide_eq_true_eq]; exact ⟨hA, e⟩), if_pos (decide_eq_true e), yf ⟨h0, by omega⟩, hk1, yo (x := s + _) (by omega), y8j h1 h2 ha hs hl n _ (i + 1) (by omega) (by omega) (by omega) (by omega) (by omega), show (i + 1).toNat = i.toNat + 1 by omega]
    unfold y1o
    rw [y2E]; congr 1; simp only; omega
   ·rw [if_neg (by simp only [Bool.and_eq_true, decide_eq_true_eq]; exact fun hc => e hc.2), if_neg (by rw [decide_eq_true_eq]; exact e), hk1, y8j h1 h2 ha hs hl n _ (i + 1) (by omega) (by omega) (by omega) (by omega) (by omega), show (i + 1).toNat = i.toNat + 1 by omega]
    rfl
  ·rw [if_neg (by rw [decide_eq_true_eq]; omega), List.drop_eq_nil_of_le (by omega)]
   simp [y1o, y2E]
theorem ref_put {q : RPt} {p : Pt} (h : RP q p) (hp : PI p) (hs : ∀ x ∈ q.fSize, 1 ≤ x ∧ x ≤ 72) (hl : q.fEnd.length ≤ 2000) {t size : Int} (ht : 0 ≤ t) (h1 : 1 ≤ size ∧ size ≤ 72) (h2 : p.fNow ≤ t ∧ t ≤ 1073741824) :
  ∃ q', y3N q t size = some (q', (y1S p t size).1, (y1S p t size).2.1) ∧ RP q' (y1S p t size).2.2 ∧ (∀ x ∈ q'.fSize, 1 ≤ x ∧ x ≤ 72) ∧ q'.fEnd.length ≤ q.fEnd.length + 1 := by
 have hm := y8A (a := size) (b := p.fNumbers.fSlow) h1 hp.slow
 have hpd := hp.delay
 have hpl := hp.last
 unfold y3N y1S
 rw [if_neg (by simp only [Bool.or_eq_true, decide_eq_true_eq]; rw [h.now]; omega), if_neg (by omega)]
 -- what is held
 have hheld : y3p ⟨q.fSlow, q.fDelay, q.fStore, t, q.fAt, q.fSize, q.fEnd⟩ t = some (y2E (y1o t p.fFrames)) := by
  unfold y3p
  refine y1h (P := fun o => o = some (y2E (y1o t p.fFrames))) fun k hk => ?_
  rw [if_neg (by simp), hk]
  refine y1h (P := fun o => o = some (y2E (y1o t p.fFrames))) fun k1 hk1 => ?_
  rw [y8j (q := ⟨q.fSlow, q.fDelay, q.fStore, t, q.fAt, q.fSize, q.fEnd⟩) h.l1 h.l2 (fun x hx => Int.le_trans (h.at_ x hx) h2.1) hs (by show q.fEnd.length ≤ _; omega) yw 0 0 (by omega) (by show (0 : Int) ≤ q.fEnd.length; omega) (by rw [y1k]; show (q.fEnd.length : Int) < _; omega) (by omega) (by omega), hk1]
  congr 1
  rw [Int.toNat_zero, List.drop_zero, Int.zero_add]
  show y2E (y1o t (y47 q)) = _
  rw [← y4s h2.1, h.fr, y4s h2.1]
 rw [hheld]
 simp only [Option.bind_some]
 have hsz := (y9S (l := y1o t p.fFrames) fun x hx => hp.sz x (y7c x hx))
 have hwl := y68 (t := t) (l := p.fFrames)
 have hpf := hp.len
 rw [yo (x := y2E (y1o t p.fFrames) + size) (by omega)]
 by_cases hst : y2E (y1o t p.fFrames) + size > p.fNumbers.fStore
 ·rw [if_pos (decide_eq_true (by rw [h.store]; exact hst)), if_pos hst]
  refine ⟨_, rfl, ⟨h.slow, h.delay, h.store, rfl, h.l1, h.l2, fun x hx => Int.le_trans (h.at_ x hx) h2.1, ?_, h.last⟩, hs, by simp⟩
  show y1o t (y47 q) = y1o t (y1o t p.fFrames)
  rw [y4s (Int.le_refl _), ← y4s h2.1, h.fr, y4s h2.1]
 ·rw [if_neg (by rw [decide_eq_true_eq, h.store]; exact hst), if_neg hst]
  dsimp only
  refine y1h (P := fun o => ∃ q', o = some (q', y3a p t size, (0 : Int)) ∧ RP q' ⟨p.fNumbers, t, y3a p t size, y1o t p.fFrames ++ [⟨size, y3a p t size⟩]⟩ ∧ (∀ x ∈ q'.fSize, 1 ≤ x ∧ x ≤ 72) ∧ q'.fEnd.length ≤ q.fEnd.length + 1) fun k hk => ?_
  have fin : ∀ b : Int, b = max (t + p.fNumbers.fDelay) p.fLast → ∃ q', k b = some (q', y3a p t size, (0 : Int)) ∧ RP q' ⟨p.fNumbers, t, y3a p t size, y1o t p.fFrames ++ [⟨size, y3a p t size⟩]⟩ ∧ (∀ x ∈ q'.fSize, 1 ≤ x ∧ x ≤ 72) ∧ q'.fEnd.length ≤ q.fEnd.length + 1 := by
   intro b hb
   have e1 := h.l1
   have e2 := h.l2
   have he : i64 (b + i64 (size * q.fSlow)) = y3a p t size := by
    unfold y3a
    rw [h.slow, yo (x := size * p.fNumbers.fSlow) (by omega), yo (x := b + _) (by omega), hb]
   rw [hk, he]
   rw [yf (by simp; omega), yf (by simp; omega), yf (by simp; omega), yf (by simp; omega), yf (by simp; omega), yf (by simp; omega)]
   refine ⟨_, rfl, ⟨h.slow, h.delay, h.store, rfl, ?_, ?_, ?_, ?_, .inr ⟨q.fEnd, rfl⟩⟩, ?_, ?_⟩
   ·simp; omega
   ·simp; omega
   ·intro x hx
    rcases List.mem_append.1 hx with hx | hx
    ·exact Int.le_trans (h.at_ x (by simpa using hx)) h2.1
    ·rw [List.mem_singleton.1 hx]; exact Int.le_refl _
   ·show y1o t (y47 _) = y1o t (y1o t p.fFrames ++ [_])
    have hz : y47 (⟨q.fSlow, q.fDelay, q.fStore, t, [] ++ q.fAt ++ [t], [] ++ q.fSize ++ [size], [] ++ q.fEnd ++ [y3a p t size]⟩ : RPt) = y47 q ++ [⟨size, y3a p t size⟩] := by
     unfold y47
     simp only [List.nil_append]
     rw [List.zip_append e2]
     simp
    rw [hz]
    unfold y1o
    rw [List.filter_append, List.filter_append]
    congr 1
    show y1o t (y47 q) = y1o t (y1o t p.fFrames)
    rw [y4s (Int.le_refl _), ← y4s h2.1, h.fr, y4s h2.1]
   ·intro x hx
    rcases List.mem_append.1 hx with hx | hx
    ·exact hs x (by simpa using hx)
    ·rw [List.mem_singleton.1 hx]; exact h1
   ·simp
  have hi : i64 (t + q.fDelay) = t + p.fNumbers.fDelay := by rw [h.delay]; exact yo (by omega)
  rw [hi]
  rcases h.last with ⟨a, b⟩ | ⟨l, a⟩
  ·have e0 : ¬ (((q.fEnd.length : Nat) : Int) > 0) := by rw [a]; simp
   rw [yf (fun hc => absurd (of_decide_eq_true hc) e0), if_neg (by simp only [Bool.and_eq_true, decide_eq_true_eq]; exact fun hc => e0 hc.1)]
   exact fin _ (by rw [b]; omega)
  ·have hlen : q.fEnd.length = l.length + 1 := by rw [a]; simp
   have hn : nth q.fEnd (i64 ((q.fEnd.length : Int) - 1)) = p.fLast := by
    rw [yo (x := (q.fEnd.length : Int) - 1) (by omega), a, y5w (P := l) (S := []) (by simp)]
   have hi2 : i64 ((q.fEnd.length : Int) - 1) = (q.fEnd.length : Int) - 1 := yo (by omega)
   rw [hn, hi2, yf (fun _ => ⟨by omega, by omega⟩)]
   by_cases e : p.fLast > t + p.fNumbers.fDelay
   ·rw [if_pos (by simp only [Bool.and_eq_true, decide_eq_true_eq]; omega), yf ⟨by omega, by omega⟩]
    exact fin _ (by omega)
   ·rw [if_neg (by simp only [Bool.and_eq_true, decide_eq_true_eq]; omega)]
    exact fin _ (by omega)
theorem ref_new {c : Cf} {net : Int} {k : Ex} (h : PI (y1l c k)) : y51 (y1l c k).fNumbers.fSlow (y1l c k).fNumbers.fDelay (y1l c k).fNumbers.fStore = some (⟨(y1l c k).fNumbers.fSlow, (y1l c k).fNumbers.fDelay, (y1l c k).fNumbers.fStore, 0, [], [], []⟩, 0) := by
 have h1 := h.slow
 have h2 := h.delay
 have h3 := h.store
 unfold y51
 rw [if_neg (by simp only [Bool.or_eq_true, decide_eq_true_eq]; omega)]
theorem fresh_RP (c : Cf) (k : Ex) : RP ⟨(y1l c k).fNumbers.fSlow, (y1l c k).fNumbers.fDelay, (y1l c k).fNumbers.fStore, 0, [], [], []⟩ (y1l c k) := ⟨rfl, rfl, rfl, rfl, rfl, rfl, by simp, rfl, .inl ⟨rfl, rfl⟩⟩
/-! ### the reference's steps -/
theorem yaW (a b : Ev) : y3D a b = some (decide (klt a b)) := by
 unfold y3D
 by_cases h1 : a.fTime = b.fTime
 ·by_cases h2 : a.fIn_ = b.fIn_
  ·by_cases h3 : a.fVl = b.fVl
   ·simp only [h1, h2, h3, ne_eq, not_true_eq_false, decide_false, Bool.false_eq_true, if_false]
    congr 1; rw [Bool.eq_iff_iff, decide_eq_true_iff, decide_eq_true_iff]; unfold klt; omega
   ·simp only [h1, h2, h3, ne_eq, not_true_eq_false, decide_false, Bool.false_eq_true, if_false, not_false_eq_true, decide_true, if_true]
    congr 1; rw [Bool.eq_iff_iff, decide_eq_true_iff, decide_eq_true_iff]; unfold klt; omega
  ·simp only [h1, h2, ne_eq, not_true_eq_false, decide_false, Bool.false_eq_true, if_false, not_false_eq_true, decide_true, if_true]
   congr 1; rw [Bool.eq_iff_iff, decide_eq_true_iff, decide_eq_true_iff]; unfold klt; omega
 ·simp only [h1, ne_eq, not_false_eq_true, decide_true, if_true]
  congr 1; rw [Bool.eq_iff_iff, decide_eq_true_iff, decide_eq_true_iff]; unfold klt; omega
theorem y5x {rs : List (List Hop)} {sent : List Snt} {s node t i : Int} {k : List Ev → Option (List Ev)} (hs : 0 ≤ s ∧ s < sent.length) (hr : (nth rs (nth sent s).fVL).length ≤ 1000) :
  ∀ (n : Nat) (o : List Ev) (v : Int), 0 ≤ v → v ≤ (nth rs (nth sent s).fVL).length → (nth rs (nth sent s).fVL).length < n + v → o.length ≤ v →
  y2K rs sent s node t i k n o v = k (o ++ (((nth rs (nth sent s).fVL).drop v.toNat).filter fun h => decide (h.fNode = node)).map fun h => ⟨t, i, (nth sent s).fVL, s, h⟩)
 | 0, o, v, h0, h1, h2, h3 => by omega
 | n + 1, o, v, h0, h1, h2, h3 => by
  rw [y2K]
  by_cases h : v < (nth rs (nth sent s).fVL).length
  ·rw [if_pos (decide_eq_true h)]
   refine y1h (P := fun x => x = _) fun k1 hk1 => ?_
   rw [yf ⟨h0, h⟩, y39 h0 h, List.filter_cons]
   by_cases e : (nth (nth rs (nth sent s).fVL) v).fNode = node
   ·rw [if_pos (decide_eq_true e), if_pos (decide_eq_true e), yf hs, yf ⟨h0, h⟩, yf (by simp; omega), hk1, yo (x := v + 1) (by omega), y5x hs hr n _ (v + 1) (by omega) (by omega) (by omega) (by simp; omega), show (v + 1).toNat = v.toNat + 1 by omega]
    simp
   ·rw [if_neg (by rw [decide_eq_true_eq]; exact e), if_neg (by rw [decide_eq_true_eq]; exact e), hk1, yo (x := v + 1) (by omega), y5x hs hr n _ (v + 1) (by omega) (by omega) (by omega) (by omega), show (v + 1).toNat = v.toNat + 1 by omega]
  ·rw [if_neg (by simpa using h), List.drop_eq_nil_of_le (by omega)]
   simp
theorem y9o {rs : List (List Hop)} {sent : List Snt} {s node t i : Int} (hs : 0 ≤ s ∧ s < sent.length) (hv : 0 ≤ (nth sent s).fVL ∧ (nth sent s).fVL < rs.length) (hr : (nth rs (nth sent s).fVL).length ≤ 1000) : y3W rs sent node t i s = some (news rs sent node t i s) := by
 unfold y3W
 rw [yf hs, yf hv]
 refine y1h (P := fun x => x = some (news rs sent node t i s)) fun k hk => ?_
 rw [y5x hs hr yw [] 0 (by omega) (by omega) (by rw [y1k]; omega) (by simp), hk]
 rfl
theorem y8k {todo : List Ev} {K : List S92 → Int → Option (List Cm × List Cm × Int)} {ex : List S92} (hl : todo.length ≤ 100000) : ∀ (n : Nat) (b i : Int), 0 ≤ b → b < i → i ≤ todo.length → todo.length < n + i → (∀ j : Int, 0 ≤ j → j < i → kle (nth todo b) (nth todo j)) →
  ∃ b' : Int, 0 ≤ b' ∧ b' < todo.length ∧ (∀ j : Int, 0 ≤ j → j < todo.length → kle (nth todo b') (nth todo j)) ∧ y37 todo K n ex b i = K ex b'
 | 0, b, i, h0, h1, h2, h3, h4 => by omega
 | n + 1, b, i, h0, h1, h2, h3, h4 => by
  rw [y37]
  by_cases h : i < todo.length
  ·rw [if_pos (decide_eq_true h)]
   refine y1h (P := fun o => ∃ b' : Int, 0 ≤ b' ∧ b' < todo.length ∧ (∀ j : Int, 0 ≤ j → j < todo.length → kle (nth todo b') (nth todo j)) ∧ o = K ex b') fun k1 hk1 => ?_
   rw [yf ⟨by omega, h⟩, yf ⟨h0, by omega⟩]
   show ∃ b' : Int, 0 ≤ b' ∧ b' < todo.length ∧ (∀ j : Int, 0 ≤ j → j < todo.length → kle (nth todo b') (nth todo j)) ∧ ((y3D (nth todo i) (nth todo b)).bind fun x => if x then k1 i else k1 b) = K ex b'
   rw [yaW]
   simp only [Option.bind_some]
   by_cases e : klt (nth todo i) (nth todo b)
   ·rw [if_pos (decide_eq_true e), hk1, yo (x := i + 1) (by omega)]
    refine y8k hl n i (i + 1) (by omega) (by omega) (by omega) (by omega) fun j j0 j1 => ?_
    by_cases q : j = i
    ·rw [q]; exact y5u _
    ·exact y5E (y5m e) (h4 j j0 (by omega))
   ·rw [if_neg (by rw [decide_eq_true_eq]; exact e), hk1, yo (x := i + 1) (by omega)]
    refine y8k hl n b (i + 1) h0 (by omega) (by omega) (by omega) fun j j0 j1 => ?_
    by_cases q : j = i
    ·rw [q]; exact e
    ·exact h4 j j0 (by omega)
  ·rw [if_neg (by rw [decide_eq_true_eq]; exact h)]
   exact ⟨b, h0, by omega, fun j j0 j1 => h4 j j0 (by omega), rfl⟩
end Go.Proofs.Ytinchjigeakocaa
