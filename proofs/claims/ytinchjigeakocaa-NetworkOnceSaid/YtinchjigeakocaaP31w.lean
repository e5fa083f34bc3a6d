/- A part of this claim's proof: models of functions, walks, plain laws. No conditions. -/
import Derived.Test.YtinchjigeakocaaP31i
namespace Go.Proofs.Ytinchjigeakocaa
open Go Go.RowKit Sep
set_option linter.all false
def bk (r : List Hop) (w : Hop → Int) : Nat → Int → Int
 | 0, _ => 0
 | n + 1, a => if (nth r (n : Int)).fNext = a then w (nth r (n : Int)) + bk r w n (nth r (n : Int)).fNode else bk r w n a
theorem y69 {r : List Hop} {w : Hop → Int} {a : Int} : ∀ (n m : Nat), n ≤ m → (∀ j : Nat, n ≤ j → j < m → (nth r (j : Int)).fNext ≠ a) → bk r w m a = bk r w n a
 | n, 0, h, _ => by rw [show n = 0 by omega]
 | n, m + 1, h, hj => by
  by_cases e : n = m + 1
  ·rw [e]
  ·rw [bk, if_neg (hj m (by omega) (by omega))]
   exact y69 n m (by omega) fun j h1 h2 => hj j h1 (by omega)
theorem y5I {r : List Hop} {w : Hop → Int} (hw : ∀ h ∈ r, 0 ≤ w h) : ∀ (n : Nat) (a : Int), n ≤ r.length → 0 ≤ bk r w n a
 | 0, a, _ => Int.le_refl _
 | n + 1, a, h => by
  rw [bk]
  split
  ·have h1 := hw (nth r (n : Int)) (y35 (by omega) (by omega))
   have h2 := y5I hw n (nth r (n : Int)).fNode (by omega)
   omega
  ·exact y5I hw n a (by omega)
theorem y9l {α : Type} {R : α → α → Prop} {l : List α} (h : l.Pairwise R) {a b : α} (ha : a ∈ l) (hb : b ∈ l) (hab : a ≠ b) : R a b ∨ R b a := by
 obtain ⟨i, hi, rfl⟩ := List.getElem_of_mem ha
 obtain ⟨j, hj, rfl⟩ := List.getElem_of_mem hb
 rw [List.pairwise_iff_getElem] at h
 rcases Nat.lt_trichotomy i j with hij | hij | hij
 ·exact .inl (h i j hi hj hij)
 ·subst hij; exact absurd rfl hab
 ·exact .inr (h j i hj hi hij)
section
variable {c : Cf} {net : Int} {rs : List (List Hop)} {sent : List Snt}
theorem VR.next_ne' {r : List Hop} (h : VR c net r) {i j : Nat} (hi : i < r.length) (hj : j < r.length) (hij : i ≠ j) : (nth r (i : Int)).fNext ≠ (nth r (j : Int)).fNext := by
 rw [y2M ⟨by omega, by omega⟩, y2M ⟨by omega, by omega⟩]
 simp only [Int.toNat_natCast]
 rcases Nat.lt_or_gt_of_ne hij with q | q
 ·exact (h.idx hi hj q).1
 ·exact fun e => (h.idx hj hi q).1 e.symm
theorem VR.prev {r : List Hop} (h : VR c net r) {v : Nat} (hv : v < r.length) : (nth r (v : Int)).fNode = (nth r 0).fNode ∨ ∃ q : Nat, q < v ∧ (nth r (q : Int)).fNext = (nth r (v : Int)).fNode := by
 rcases (h.cond (v : Int) (by omega) (by omega)).1 with a | ⟨q, q1, q2, q3⟩
 ·exact .inl a
 ·refine .inr ⟨q.toNat, by omega, ?_⟩
  rw [Int.toNat_of_nonneg q1]; exact q3
theorem VR.bk_start {r : List Hop} (h : VR c net r) {w : Hop → Int} {v : Nat} (hv : v ≤ r.length) : bk r w v (nth r 0).fNode = 0 := by
 rw [y69 0 v (by omega) fun j _ h2 => h.next_ne _ (y35 (by omega) (by omega))]; rfl
theorem VR.bk_next {r : List Hop} (h : VR c net r) {w : Hop → Int} {v m : Nat} (hv : v < r.length) (hm : v + 1 ≤ m) (hm2 : m ≤ r.length) : bk r w m (nth r (v : Int)).fNext = w (nth r (v : Int)) + bk r w v (nth r (v : Int)).fNode := by
 rw [y69 (v + 1) m hm fun j h1 h2 => h.next_ne' (by omega) hv (by omega), bk, if_pos rfl]
theorem idx_of {r : List Hop} {h : Hop} (hm : h ∈ r) : ∃ v : Nat, v < r.length ∧ nth r (v : Int) = h := by
 obtain ⟨i, hi, rfl⟩ := List.getElem_of_mem hm
 exact ⟨i, hi, by rw [y2M ⟨by omega, by omega⟩]; simp⟩
theorem Rc.same (g : Sg c net rs sent) {S : St} {H : List Rc} (h : JV c net rs sent S H) {a b : Rc} (ha : a ∈ H) (hb : b ∈ H) (e : a.id = b.id) : a = b := by
 by_cases hab : a = b
 ·exact hab
 ·have hnd := (List.nodup_append.1 h.iv.nd).1
  rw [List.nodup_iff_pairwise_ne, List.pairwise_map] at hnd
  rcases y9l hnd ha hb hab with q | q
  ·exact absurd e q
  ·exact absurd e.symm q
theorem cost_pos (g : Sg c net rs sent) {s : Int} {h : Hop} (hs : 0 ≤ s ∧ s < sent.length) (hh : h ∈ route rs sent s) : 0 ≤ cost c sent s h := by
 have hp := y94 g (k := yD h) ⟨s, h, hs, hh, rfl⟩
 have hsz := (g.fr.each s hs.1 hs.2).2.2.2.2
 have hm := y6V (a := (nth sent s).fSize) (b := (y2s c (yD h)).fNumbers.fSlow) ⟨hsz.1, hsz.2.1⟩ hp.slow
 have := hp.delay
 unfold cost; omega
theorem least (g : Sg c net rs sent) {S : St} {H : List Rc} (h : JV c net rs sent S H) (s : Int) (hs : 0 ≤ s ∧ s < sent.length) : ∀ (v : Nat), v < (route rs sent s).length → ∀ r ∈ H, r.ev.fSent = s → r.ev.fHop = nth (route rs sent s) (v : Int) →
  (nth sent s).fTime + bk (route rs sent s) (cost c sent s) v (nth (route rs sent s) (v : Int)).fNode ≤ r.ev.fTime ∧ ∀ t, r.out = some t → (nth sent s).fTime + bk (route rs sent s) (cost c sent s) (v + 1) (nth (route rs sent s) (v : Int)).fNext ≤ t := by
 intro v
 induction v using Nat.strongRecOn with
 | _ v ih =>
  intro hv r hr e1 e2
  have hvr := g.route hs
  have hin : (nth sent s).fTime + bk (route rs sent s) (cost c sent s) v (nth (route rs sent s) (v : Int)).fNode ≤ r.ev.fTime := by
   rcases h.src r.ev (.inr ⟨r, hr, rfl⟩) with ⟨a, b, _⟩ | ⟨r', hr', a, b, d⟩
   ·rw [e1] at a b
    rw [e2] at a
    rw [a]
    unfold root
    rw [hvr.bk_start (by omega), b]; omega
   ·rw [e1] at a
    rw [e2] at b
    have hm' : r'.ev.fHop ∈ route rs sent s := by rw [← a]; exact (h.ok r' hr').h
    rcases hvr.prev hv with q | ⟨q, q1, q2⟩
    ·exact absurd (b.trans q) (hvr.next_ne _ hm')
    ·have he : r'.ev.fHop = nth (route rs sent s) (q : Int) := hvr.next_inj hm' (y35 (by omega) (by omega)) (b.trans q2.symm)
     have := (ih q q1 (by omega) r' hr' a he).2 _ d
     rw [q2] at this
     rw [y69 (q + 1) v (by omega) fun j h1 h2 => by rw [← q2]; exact hvr.next_ne' (by omega) (by omega) (by omega)]
     exact this
  refine ⟨hin, fun t ht => ?_⟩
  have := (h.out r hr t ht).1
  rw [e1, e2] at this
  rw [hvr.bk_next hv (Nat.le_refl _) (by omega)]
  omega
theorem y98 {H : List Rc} {come : List Cm} (hp : come.Perm (H.filterMap (y4m c))) {x : Cm} (hx : x ∈ come) : ∃ r ∈ H, r.ev.fSent = x.fSent ∧ r.ev.fHop.fNext = x.fNode ∧ r.out = some x.fTime ∧ x.fNode < nM c := by
 obtain ⟨r, hr, he⟩ := List.mem_filterMap.1 (hp.mem_iff.1 hx)
 refine ⟨r, hr, ?_⟩
 unfold y4m at he
 cases ho : r.out with
 | none => rw [ho] at he; simp at he
 | some t =>
  rw [ho, Option.bind_some] at he
  split at he
  ·rename_i hn
   cases he
   exact ⟨rfl, rfl, rfl, hn⟩
  ·simp at he
theorem rec_come {H : List Rc} {come : List Cm} (hp : come.Perm (H.filterMap (y4m c))) {r : Rc} (hr : r ∈ H) {t : Int} (ht : r.out = some t) (hn : r.ev.fHop.fNext < nM c) : (⟨r.ev.fSent, r.ev.fHop.fNext, t⟩ : Cm) ∈ come := by
 refine hp.mem_iff.2 (List.mem_filterMap.2 ⟨r, hr, ?_⟩)
 unfold y4m
 rw [ht, Option.bind_some, if_pos hn]
theorem rec_lost {H : List Rc} {lost : List Cm} (hp : lost.Perm (H.filterMap y4H)) {r : Rc} (hr : r ∈ H) (ht : r.out = none) : (⟨r.ev.fSent, r.ev.fHop.fNode, r.ev.fTime⟩ : Cm) ∈ lost := by
 refine hp.mem_iff.2 (List.mem_filterMap.2 ⟨r, hr, ?_⟩)
 unfold y4H
 rw [if_pos ht]
theorem lost_rec {H : List Rc} {lost : List Cm} (hp : lost.Perm (H.filterMap y4H)) {x : Cm} (hx : x ∈ lost) : ∃ r ∈ H, r.ev.fSent = x.fSent ∧ r.ev.fHop.fNode = x.fNode ∧ r.ev.fTime = x.fTime := by
 obtain ⟨r, hr, he⟩ := List.mem_filterMap.1 (hp.mem_iff.1 hx)
 refine ⟨r, hr, ?_⟩
 unfold y4H at he
 split at he
 ·cases he; exact ⟨rfl, rfl, rfl⟩
 ·simp at he
theorem ya3 (g : Sg c net rs sent) {S : St} {H : List Rc} (h : JV c net rs sent S H) {come : List Cm} (hp : come.Perm (H.filterMap (y4m c))) : come.Pairwise fun x y => ¬ (x.fSent = y.fSent ∧ x.fNode = y.fNode) := by
 refine (hp.pairwise_iff (fun {x y} h1 h2 => h1 ⟨h2.1.symm, h2.2.symm⟩)).2 ?_
 have hnd := (List.nodup_append.1 h.iv.nd).1
 rw [List.nodup_iff_pairwise_ne, List.pairwise_map] at hnd
 rw [List.pairwise_filterMap]
 refine hnd.imp_of_mem ?_
 intro a b ha hb hab x hx y hy ⟨e1, e2⟩
 have f : ∀ {r : Rc} {z : Cm}, y4m c r = some z → z.fSent = r.ev.fSent ∧ z.fNode = r.ev.fHop.fNext := by
  intro r z hz
  unfold y4m at hz
  cases ho : r.out with
  | none => rw [ho] at hz; simp at hz
  | some t =>
   rw [ho, Option.bind_some] at hz
   split at hz
   ·cases hz; exact ⟨rfl, rfl⟩
   ·simp at hz
 obtain ⟨x1, x2⟩ := f hx
 obtain ⟨y1, y2⟩ := f hy
 have ka := h.ok a ha
 have kb := h.ok b hb
 have es : a.ev.fSent = b.ev.fSent := by rw [← x1, ← y1, e1]
 have : a.ev.fHop = b.ev.fHop := (g.route ka.s).next_inj ka.h (by rw [es]; exact kb.h) (by rw [← x2, ← y2, e2])
 exact hab (by unfold Rc.id y1c; rw [es, this])
end
end Go.Proofs.Ytinchjigeakocaa
