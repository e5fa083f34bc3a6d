/- A part of this claim's proof: models of functions, walks, plain laws. No conditions. -/
import Derived.Test.YtcahmabkeaijdaaGreatP35b
namespace Go.Proofs.YtcahmabkeaijdaaGreat
open Go Go.RowKit Sep
set_option linter.all false
/-! ### the order of computation -/
def blk1 (r : List Hop) (p : Pl) (mp : List (Pl × Int)) (h : Hop) : Bool := (decide (pk h = p) && (y5Z r h.fNode).2) && decide (yp mp (pk (y5Z r h.fNode).1) 0 = 0)
theorem ydH {r : List Hop} {p : Pl} {mp : List (Pl × Int)} {h : Hop} (hl : r.length < 1000000000) : y42 h r p mp = some (blk1 r p mp h) := by
 unfold y42 blk1
 rw [into_eq hl, of_eq, Option.bind_some, Option.bind_some]
 by_cases hc : (decide (pk h = p) && (y5Z r h.fNode).2) = true
 ·rw [if_pos hc, of_eq, hc]; rfl
 ·rw [if_neg hc]; simp only [Bool.not_eq_true] at hc; rw [hc]; rfl
theorem ydi {s r : List Hop} {p : Pl} {mp : List (Pl × Int)} {k : Option Int} (hr : r.length < 1000000000) (hl : s.length < 1000000000) : ∀ (n : Nat) (i : Int), 0 ≤ i → i ≤ s.length → s.length < n + i →
  ((s.drop i.toNat).any (blk1 r p mp) = true ∧ ∃ j : Int, 0 ≤ j ∧ yP s r p mp k n i = some j) ∨ ((s.drop i.toNat).any (blk1 r p mp) = false ∧ yP s r p mp k n i = k)
 | 0, i, h0, h1, h2 => by omega
 | n + 1, i, h0, h1, h2 => by
  rw [yP]
  by_cases h : i < s.length
  ·rw [if_pos (decide_eq_true h), y1c ⟨h0, h⟩, y3b h0 h]
   have e : (⟨((nth s i).fNode), ((nth s i).fNext), ((nth s i).fLink)⟩ : Sapi_Hop) = nth s i := rfl
   rw [e, ydH hr, Option.bind_some, List.any_cons]
   cases hb : blk1 r p mp (nth s i) with
   | true => rw [if_pos rfl]; exact .inl ⟨rfl, i, h0, rfl⟩
   | false =>
    rw [if_neg (by simp), Bool.false_or, y1H (x := i + 1) (by omega)]
    have e2 : (i + 1).toNat = i.toNat + 1 := by omega
    rw [← e2]
    exact ydi hr hl n (i + 1) (by omega) (by omega) (by omega)
  ·rw [if_neg (by simpa using h), List.drop_eq_nil_of_le (by omega)]
   exact .inr ⟨rfl, rfl⟩
def blkR (p : Pl) (mp : List (Pl × Int)) (r : List Hop) : Bool := r.any (blk1 r p mp)
theorem ye5 {r : List Hop} {p : Pl} {mp : List (Pl × Int)} (hl : r.length < 1000000000) : y4N r p mp = some (blkR p mp r) := by
 unfold y4N y1B y1I
 have hF := y2f
 generalize yB = N at hF ⊢
 refine y4r (P := fun o => ((o.bind fun x => some (decide (x ≥ 0))).bind fun x => some x) = some (blkR p mp r)) fun k hk => ?_
 have := ydi (s := r) (r := r) (p := p) (mp := mp) (k := k) hl hl N 0 (by omega) (by omega) (by omega)
 simp only [Int.toNat_zero, List.drop_zero] at this
 unfold blkR
 rcases this with ⟨h1, j, h2, h3⟩ | ⟨h1, h2⟩
 ·rw [h3, h1]; simp [h2]
 ·rw [h2, hk, h1]; simp
theorem ydj {s : List (List Hop)} {p : Pl} {mp : List (Pl × Int)} {k : Option Int} (hr : ∀ r ∈ s, r.length < 1000000000) (hl : s.length < 1000000000) : ∀ (n : Nat) (i : Int), 0 ≤ i → i ≤ s.length → s.length < n + i →
  ((s.drop i.toNat).any (blkR p mp) = true ∧ ∃ j : Int, 0 ≤ j ∧ yM s p mp k n i = some j) ∨ ((s.drop i.toNat).any (blkR p mp) = false ∧ yM s p mp k n i = k)
 | 0, i, h0, h1, h2 => by omega
 | n + 1, i, h0, h1, h2 => by
  rw [yM]
  by_cases h : i < s.length
  ·rw [if_pos (decide_eq_true h), y1c ⟨h0, h⟩, y3b h0 h]
   rw [ye5 (hr _ (y5c h0 h)), Option.bind_some, List.any_cons]
   cases hb : blkR p mp (nth s i) with
   | true => rw [if_pos rfl]; exact .inl ⟨rfl, i, h0, rfl⟩
   | false =>
    rw [if_neg (by simp), Bool.false_or, y1H (x := i + 1) (by omega)]
    have e2 : (i + 1).toNat = i.toNat + 1 := by omega
    rw [← e2]
    exact ydj hr hl n (i + 1) (by omega) (by omega) (by omega)
  ·rw [if_neg (by simpa using h), List.drop_eq_nil_of_le (by omega)]
   exact .inr ⟨rfl, rfl⟩
def blk (rs : List (List Hop)) (mp : List (Pl × Int)) (p : Pl) : Bool := rs.any (blkR p mp)
theorem blk_eq {rs : List (List Hop)} {p : Pl} {mp : List (Pl × Int)} (hr : ∀ r ∈ rs, r.length < 1000000000) (hl : rs.length < 1000000000) : y14 rs p mp = some (blk rs mp p) := by
 unfold y14 y1C
 have hF := y2f
 generalize yB = N at hF ⊢
 refine y4r (P := fun o => (o.bind fun x => some (decide (x ≥ 0))) = some (blk rs mp p)) fun k hk => ?_
 have := ydj (s := rs) (p := p) (mp := mp) (k := k) hr hl N 0 (by omega) (by omega) (by omega)
 simp only [Int.toNat_zero, List.drop_zero] at this
 unfold blk
 rcases this with ⟨h1, j, h2, h3⟩ | ⟨h1, h2⟩
 ·rw [h3, h1]; simp [h2]
 ·rw [h2, hk, h1]; simp
def Pred (rs : List (List Hop)) (p q : Pl) : Prop := ∃ r ∈ rs, ∃ h ∈ r, pk h = p ∧ (y5Z r h.fNode).2 = true ∧ pk (y5Z r h.fNode).1 = q
theorem ybX {rs : List (List Hop)} {p : Pl} {mp : List (Pl × Int)} : blk rs mp p = true ↔ ∃ q, Pred rs p q ∧ yp mp q 0 = 0 := by
 unfold blk blkR blk1 Pred
 simp only [List.any_eq_true, Bool.and_eq_true, decide_eq_true_eq]
 constructor
 ·rintro ⟨r, hr, h, hh, ⟨e, i⟩, z⟩; exact ⟨_, ⟨r, hr, h, hh, e, i, rfl⟩, z⟩
 ·rintro ⟨q, ⟨r, hr, h, hh, e, i, rfl⟩, z⟩; exact ⟨r, hr, h, hh, ⟨e, i⟩, z⟩
theorem Pred.mem {rs : List (List Hop)} {p q : Pl} (h : Pred rs p q) : q ∈ PS rs := by
 obtain ⟨r, hr, h, hh, e, i, rfl⟩ := h
 exact (y8I rs _).2 ⟨r, hr, _, (ybW i).1, rfl⟩
abbrev OR := List Sbound_place × Int
theorem ycT {rest out : List Pl} {rs : List (List Hop)} {mp : List (Pl × Int)} {k1 : List Pl → List Pl → List (Pl × Int) → Option OR} {k2 : Option OR} (hr : ∀ r ∈ rs, r.length < 1000000000) (hl : rs.length < 1000000000)
  (hs : rest.length + out.length ≤ 1000000) : ∀ (n : Nat) (v : Int), 0 ≤ v → v ≤ rest.length → rest.length < n + v →
  (∃ (l1 : List Pl) (p : Pl) (l2 : List Pl), rest = l1 ++ p :: l2 ∧ blk rs mp p = false ∧ y2M rest rs mp out k1 k2 n v = k1 (l1 ++ l2) (out ++ [p]) (yG mp p (i64 (yp mp p 0 + 1)))) ∨
  ((∀ p ∈ rest.drop v.toNat, blk rs mp p = true) ∧ y2M rest rs mp out k1 k2 n v = k2)
 | 0, v, h0, h1, h2 => by omega
 | n + 1, v, h0, h1, h2 => by
  rw [y2M]
  by_cases h : v < rest.length
  ·rw [if_pos (decide_eq_true h), y1c ⟨h0, h⟩]
   have e : (⟨((nth rest v).fNode), ((nth rest v).fLink)⟩ : Sbound_place) = nth rest v := rfl
   rw [e, blk_eq hr hl, Option.bind_some]
   cases hb : blk rs mp (nth rest v) with
   | false =>
    rw [if_pos (by rfl), y1c (by simp; omega)]
    refine .inl ⟨rest.take v.toNat, nth rest v, rest.drop (v.toNat + 1), ?_, hb, ?_⟩
    ·rw [← y3b h0 h, List.take_append_drop]
    ·unfold y7p
     rw [y1H (x := v + 1) (by omega), y1c (by omega), Option.bind_some, show (v + 1).toNat = v.toNat + 1 by omega]
   | true =>
    rw [if_neg (by simp), y1H (x := v + 1) (by omega)]
    have e2 : (v + 1).toNat = v.toNat + 1 := by omega
    rcases ycT hr hl hs n (v + 1) (by omega) (by omega) (by omega) (k1 := k1) (k2 := k2) (mp := mp) with h3 | ⟨h3, h4⟩
    ·exact .inl h3
    ·refine .inr ⟨?_, h4⟩
     rw [y3b h0 h, ← e2]
     intro p hp
     rcases List.mem_cons.1 hp with rfl | hp
     ·exact hb
     ·exact h3 p hp
  ·rw [if_neg (by simpa using h), List.drop_eq_nil_of_le (by omega)]
   exact .inr ⟨by simp, rfl⟩
def y5m (rs : List (List Hop)) (l : List Pl) : Prop := ∀ l1 p l2, l = l1 ++ p :: l2 → ∀ q, Pred rs p q → q ∈ l1
def y8k (rs : List (List Hop)) (s : List Pl) : Prop := s ≠ [] ∧ ∀ p ∈ s, p ∈ PS rs ∧ ∃ q ∈ s, Pred rs p q
theorem ybC {rs : List (List Hop)} {k : List Pl → Option OR} (hr : ∀ r ∈ rs, r.length < 1000000000) (hl : rs.length < 1000000000) (hp : (PS rs).length ≤ 1000000) : ∀ (n : Nat) (rest out : List Pl) (mp : List (Pl × Int)), rest.length < n →
  (rest ++ out).Perm (PS rs) → (∀ q, yp mp q 0 = if q ∈ out then 1 else 0) → y5m rs out →
  (∃ l, l.Perm (PS rs) ∧ y5m rs l ∧ y2N rs k n rest out mp = k l) ∨ (∃ s, y8k rs s ∧ y2N rs k n rest out mp = some ([], 351))
 | 0, rest, out, mp, h0, h1, h2, h3 => by omega
 | n + 1, rest, out, mp, h0, h1, h2, h3 => by
  rw [y2N]
  have hlen := h1.length_eq
  rw [List.length_append] at hlen
  have hnd : (rest ++ out).Nodup := h1.nodup_iff.2 (y9W rs)
  by_cases h : rest.length > 0
  ·rw [if_pos (by simpa using h)]
   refine y7a (P := fun o => (∃ l, l.Perm (PS rs) ∧ y5m rs l ∧ o = k l) ∨ (∃ s, y8k rs s ∧ o = some ([], 351))) fun k1 hk1 => ?_
   refine y4r (P := fun o => (∃ l, l.Perm (PS rs) ∧ y5m rs l ∧ o = k l) ∨ (∃ s, y8k rs s ∧ o = some ([], 351))) fun k2 hk2 => ?_
   rcases ycT hr hl (show rest.length + out.length ≤ 1000000 by omega) yB 0 (by omega) (by omega) (by rw [y2f]; omega) (k1 := k1) (k2 := k2) (mp := mp) with ⟨l1, p, l2, e1, e2, e3⟩ | ⟨e1, e2⟩
   ·subst e1
    have hpo : p ∉ out := fun hc => by
     have := (List.nodup_append.1 hnd).2.2 p (by simp) p hc; exact this rfl
    rw [e3, hk1]
    have hm : yp mp p 0 = 0 := by rw [h2, if_neg hpo]
    rw [hm, y1H (by omega)]
    refine ybC hr hl hp n _ _ _ (by simp at h0 ⊢; omega) ?_ ?_ ?_
    ·refine List.Perm.trans ?_ h1
     rw [← List.append_assoc]
     refine (List.perm_append_comm).trans ?_
     simp only [List.singleton_append, List.append_assoc, List.cons_append]
     refine List.Perm.trans ?_ (List.perm_middle (l₁ := l1)).symm
     simp
    ·intro q
     rw [y8H, h2]
     by_cases hq : q = p
     ·subst hq; simp
     ·simp [hq]
    ·intro a q b hab q' hq'
     rcases List.append_eq_append_iff.1 hab with ⟨w, hw1, hw2⟩ | ⟨w, hw1, hw2⟩
     ·-- the last one
      cases w with
      | nil =>
       simp at hw2 hw1
       obtain ⟨rfl, rfl⟩ := hw2
       subst hw1
       by_cases hc : yp mp q' 0 = 0
       ·exact absurd (ybX.2 ⟨q', hq', hc⟩) (by rw [e2]; simp)
       ·rw [h2] at hc
        by_cases hc2 : q' ∈ a
        ·exact hc2
        ·rw [if_neg hc2] at hc; exact absurd rfl hc
      | cons x w => simp at hw2
     ·cases w with
      | nil =>
       simp at hw2 hw1
       obtain ⟨rfl, rfl⟩ := hw2
       subst hw1
       by_cases hc : yp mp q' 0 = 0
       ·exact absurd (ybX.2 ⟨q', hq', hc⟩) (by rw [e2]; simp)
       ·rw [h2] at hc
        by_cases hc2 : q' ∈ out
        ·exact hc2
        ·rw [if_neg hc2] at hc; exact absurd rfl hc
      | cons x w =>
       rw [List.cons_append] at hw2
       injection hw2 with hx hw2
       subst hx
       exact h3 a q w hw1 q' hq'
   ·refine .inr ⟨rest, ⟨by rintro rfl; simp at h, fun p hp => ⟨h1.subset (by simp [hp]), ?_⟩⟩, by rw [e2, hk2]⟩
    obtain ⟨q, hq, hz⟩ := ybX.1 (e1 p (by simpa using hp))
    refine ⟨q, ?_, hq⟩
    have hm := h1.symm.subset hq.mem
    rcases List.mem_append.1 hm with hm | hm
    ·exact hm
    ·rw [h2, if_pos hm] at hz; omega
  ·rw [if_neg (by simpa using h)]
   have : rest = [] := List.eq_nil_of_length_eq_zero (by omega)
   subst this
   exact .inl ⟨out, h1, h3, rfl⟩
theorem order_eq {rs : List (List Hop)} (hr : ∀ r ∈ rs, r.length ≤ 1000) (hl : rs.length ≤ 100) :
  (∃ l, l.Perm (PS rs) ∧ y5m rs l ∧ y3X rs = some (l, 0)) ∨ (∃ s, y8k rs s ∧ y3X rs = some ([], 351)) := by
 unfold y3X
 have hps := ycS hr
 have h3 : rs.length * 1000 ≤ 100 * 1000 := Nat.mul_le_mul_right _ hl
 rw [ye3 hr hl, Option.bind_some]
 refine y4Y (P := fun o : Option OR => (∃ l, l.Perm (PS rs) ∧ y5m rs l ∧ o = some (l, 0)) ∨ (∃ s, y8k rs s ∧ o = some ([], 351))) fun k hk => ?_
 rcases ybC (k := k) (fun r h => by have := hr r h; omega) (by omega) (by omega) yB (PS rs) [] [] (by rw [y2f]; omega) (by simp) (by simp [yp]) (fun l1 p l2 h => by simp at h) with ⟨l, e1, e2, e3⟩ | ⟨s, e1, e2⟩
 ·exact .inl ⟨l, e1, e2, by rw [e3, hk]⟩
 ·exact .inr ⟨s, e1, e2⟩
end Go.Proofs.YtcahmabkeaijdaaGreat
