/- A part of this claim's proof: models of functions, walks, plain laws. No conditions. -/
import Derived.Test.YtinchjigeakocaaP31h
import Derived.Test.YtinchjigeakocaaWNetworkWrong
namespace Go.Proofs.Ytinchjigeakocaa
open Go Go.RowKit Sep
set_option linter.all false
theorem zcz {c : Cf} {net : Int} {rs : List (List Hop)} {l : List Snt} (hs : Small c) (hr : ∀ r ∈ rs, r.length < 1000000000) (hl : rs.length < 1000000000) (h : ¬ VA c net rs) : yA c net rs = some false ∧ yI c net rs l = some ([], [], 310) := by
 obtain ⟨b, b1, b2⟩ := y6B hs (net := net) hr hl
 have hb : b = false := by
  cases b with
  | false => rfl
  | true => exact absurd (b2.1 rfl) h
 subst hb
 refine ⟨b1, ?_⟩
 unfold yI
 rw [b1]; rfl
theorem zA9 {c : Cf} {net : Int} {rs : List (List Hop)} {l : List Snt} (hs : Small c) (hr : ∀ r ∈ rs, r.length < 1000000000) (hl : rs.length < 1000000000) (h : VA c net rs) (hll : (l.length : Int) ≤ 9223372036854775807) (hf : ¬ FRm c 4000 l) : yA c net rs = some true ∧ yI c net rs l = some ([], [], 311) := by
 obtain ⟨b, b1, b2⟩ := y6B hs (net := net) hr hl
 rw [b2.2 h] at b1
 obtain ⟨f, f1, f2⟩ := y8q (c := c) hll
 have hb : f = false := by
  cases f with
  | false => rfl
  | true => exact absurd (f2.1 rfl) hf
 subst hb
 refine ⟨b1, ?_⟩
 unfold yI
 rw [b1]
 simp only [Option.bind_some, Bool.not_true, Bool.false_eq_true, if_false]
 rw [f1]; rfl
theorem y6S {c : Cf} {net : Int} {rs : List (List Hop)} {k : Int} {r : List Hop} (hk : 0 ≤ k ∧ k < rs.length) (h : ¬ VR c net r) : ¬ VA c net (rs.set k.toNat r) := fun hv => h (hv.each r (by
 rw [List.mem_iff_getElem]; exact ⟨k.toNat, by rw [List.length_set]; omega, by simp⟩))
section
variable {c : Cf} {net : Int} {r : List Hop}
theorem wrong2 (hr : 0 < r.length) (x : Hop) (hx : x.fLink = c.fLinks.length) : ¬ VR c net (r.set ((r.length : Int) - 1).toNat x) := by
 intro h
 have := (h.cond ((r.length : Int) - 1) (by omega) (by rw [List.length_set]; omega)).2.2.2
 rw [y6P ⟨by omega, by rw [List.length_set]; omega⟩, List.getElem_set_self] at this
 have := this.2.1
 omega
theorem set0 (hr : 0 < r.length) (x : Hop) : nth (r.set (0 : Int).toNat x) 0 = x := by
 rw [y6P ⟨by omega, by rw [List.length_set]; omega⟩]
 exact List.getElem_set_self _
theorem wrong3 (hr : 0 < r.length) (x : Hop) (hx : x.fNext = x.fNode) : ¬ VR c net (r.set (0 : Int).toNat x) := by
 intro h
 have := (h.cond 0 (by omega) (by rw [List.length_set]; omega)).2.1
 rw [set0 hr] at this
 exact this (.inl (by rw [set0 hr]; exact hx))
theorem wrong5 (hs : Small c) (hr : 0 < r.length) (x : Hop) (hx : x.fNode = -1) : ¬ VR c net (r.set (0 : Int).toNat x) := by
 intro h
 have := (h.cond 0 (by omega) (by rw [List.length_set]; omega)).2.2.2
 rw [set0 hr] at this
 have hh : HV c net x := this
 have := (hh.node hs).1.1
 omega
theorem wrong4 (hr : 0 < r.length) : ¬ VR c net (r ++ [nth r 0]) := by
 intro h
 have hlen : (((r ++ [nth r 0]).length : Nat) : Int) = (r.length : Int) + 1 := by simp
 have := (h.cond (r.length : Int) (by omega) (by omega)).2.1
 have e1 : nth (r ++ [nth r 0]) (r.length : Int) = nth r 0 := nthA (S := []) rfl
 have e2 : nth (r ++ [nth r 0]) 0 = nth r 0 := by
  obtain ⟨y, r', rfl⟩ : ∃ y r', r = y :: r' := by
   cases r with
   | nil => simp at hr
   | cons y r' => exact ⟨y, r', rfl⟩
  rfl
 rw [e1] at this
 exact this (.inr ⟨0, by omega, by omega, by rw [e2]⟩)
theorem frm_app {l : List Snt} {x : Snt} {n : Nat} (h : FRm c n (l ++ [x])) : 0 ≤ x.fTime ∧ x.fTime ≤ 536870912 ∧ 0 ≤ x.fVL ∧ x.fVL < c.fVLs.length ∧ 1 ≤ x.fSize ∧ x.fSize ≤ 72 := by
 have := h.each (l.length : Int) (by omega) (by rw [List.length_append, List.length_singleton]; omega)
 unfold FG at this
 rw [nthA (S := []) rfl] at this
 exact ⟨this.1, this.2.1, this.2.2.1, this.2.2.2.1, this.2.2.2.2.1, this.2.2.2.2.2.1⟩
end
theorem y6j {rs : List (List Hop)} {k : Int} {r : List Hop} (h : ∀ x ∈ rs, x.length ≤ 40) (hr : r.length ≤ 41) : ∀ x ∈ rs.set k.toNat r, x.length < 1000000000 := by
 intro x hx
 rcases List.mem_or_eq_of_mem_set hx with hx | rfl
 ·have := h x hx; omega
 ·omega
theorem y6C {c : Cf} {net : Int} {rs : List (List Hop)} {sent : List Snt} {way at_ : Int} (hs : (sent.length : Int) ≤ 9223372036854775807) (hw : 0 ≤ way ∧ way ≤ 255) (ha : 0 ≤ at_ ∧ at_ ≤ 255) : y2A c net rs sent way at_ = some true := by
 unfold y2A
 obtain ⟨b, h1, h2⟩ := lfine_eq (c := c) (net := net) (rs := rs) hs
 rw [h1]
 simp only [Option.bind_some]
 cases b with
 | false => rw [if_pos (by rfl), y4p]; rfl
 | true =>
  obtain ⟨hf, g⟩ := h2.1 rfl
  by_cases h0 : rs.length = 0
  ·rw [if_pos (by rw [h0]; rfl), y4p]; rfl
  ·have hrl := hf.r
   have hsl := g.fr.len
   have hsm := g.small
   have hK : 0 ≤ Int.tmod (i64 at_) (rs.length : Int) ∧ Int.tmod (i64 at_) (rs.length : Int) < rs.length := by
    rw [y2t (x := at_) (by omega), Int.tmod_eq_emod_of_nonneg ha.1]
    exact ⟨Int.emod_nonneg _ (by omega), Int.emod_lt_of_pos _ (by omega)⟩
   have hQ : 0 ≤ Int.tmod way 9 ∧ Int.tmod way 9 < 9 := by
    rw [Int.tmod_eq_emod_of_nonneg hw.1]; omega
   generalize Int.tmod (i64 at_) (rs.length : Int) = K at hK ⊢
   generalize Int.tmod way 9 = Q at hQ ⊢
   simp only [List.nil_append]
   have hrm : nth rs K ∈ rs := y6f hK.1 hK.2
   have hR := hf.e _ hrm
   have hvr := g.va.each _ hrm
   have hrs : ∀ r ∈ rs, r.length < 1000000000 := fun r hr => by have := hf.e r hr; omega
   rw [if_neg (by rw [decide_eq_false (by omega)]; simp), y18 (by omega), y18 (by omega), y18 hK, y18 (by omega), y18 (by omega)]
   generalize hr : nth rs K = r at hrm hR hvr ⊢
   by_cases he : (r.length = 0 ∧ Q ≥ 2) ∧ Q ≤ 5
   ·rw [if_pos (by simp only [Bool.and_eq_true, decide_eq_true_eq]; omega), y4p]; rfl
   ·rw [if_neg (by simp only [Bool.and_eq_true, decide_eq_true_eq]; omega)]
    -- what is left when the answer is known
    have t310 : ∀ {n : Int} {bad : List (List Hop)} {l : List Snt}, (yA c n bad = some false ∧ yI c n bad l = some ([], [], 310)) → ((yI c n bad l).bind fun z2X => (if (decide (z2X.2.2 = 310)) && (decide ((i64 (((z2X.1.length : Nat) : Int) + ((z2X.2.1.length : Nat) : Int))) = 0)) then (yA c n bad).bind fun zcb => some (zcb == false) else some false).bind fun z8R => (if z8R then (y14).bind fun zcc => some zcc else some false).bind fun zaa => some zaa) = some true := by
     rintro n bad l ⟨e1, e2⟩
     rw [e1, e2, y4p]; rfl
    have t311 : ∀ {n : Int} {bad : List (List Hop)} {l : List Snt}, (yA c n bad = some true ∧ yI c n bad l = some ([], [], 311)) → ((yI c n bad l).bind fun z2X => (if (decide (z2X.2.2 = 311)) && (decide ((i64 (((z2X.1.length : Nat) : Int) + ((z2X.2.1.length : Nat) : Int))) = 0)) then (yA c n bad).bind fun zcb => some (zcb == true) else some false).bind fun z8R => (if z8R then (y14).bind fun zcc => some zcc else some false).bind fun zaa => some zaa) = some true := by
     rintro n bad l ⟨e1, e2⟩
     rw [e1, e2, y4p]; rfl
    by_cases q0 : Q = 0
    ·rw [if_pos (decide_eq_true q0), y18 (by omega), if_neg (by simp only [Bool.and_eq_true, decide_eq_true_eq]; omega)]
     refine t310 (zcz hsm (fun r hr => hrs r (List.mem_of_mem_drop hr)) (by rw [List.length_drop]; omega) fun hv => ?_)
     have e1 := hv.len
     have e2 := g.va.len
     rw [List.length_drop] at e1
     have : (1 : Int).toNat = 1 := rfl
     omega
    rw [if_neg (by rw [decide_eq_true_eq]; exact q0)]
    by_cases q1 : Q = 1
    ·rw [if_pos (decide_eq_true q1)]
     refine y4o (P := fun o => o = some true) fun k hk => ?_
     rw [if_neg (by simp only [Bool.and_eq_true, decide_eq_true_eq]; omega), hk]
     exact t310 (zcz hsm hrs (by omega) fun hv => by rcases hv.nt with e | e <;> simp at e)
    rw [if_neg (by rw [decide_eq_true_eq]; exact q1)]
    by_cases q2 : Q = 2
    ·have i1 : i64 ((r.length : Int) - 1) = (r.length : Int) - 1 := y2t (by omega)
     rw [if_pos (decide_eq_true q2), i1, y18 (by omega)]
     refine y4o (P := fun o => o = some true) fun k hk => ?_
     rw [if_pos (by simp only [Bool.and_eq_true, decide_eq_true_eq]; omega), y18 hK, hk]
     exact t310 (zcz hsm (y6j hf.e (by rw [List.length_set]; omega)) (by rw [List.length_set]; omega) (y6S hK (wrong2 (by omega) _ rfl)))
    rw [if_neg (by rw [decide_eq_true_eq]; exact q2)]
    by_cases q3 : Q = 3
    ·rw [if_pos (decide_eq_true q3), y18 (by omega)]
     refine y4o (P := fun o => o = some true) fun k hk => ?_
     rw [if_pos (by simp only [Bool.and_eq_true, decide_eq_true_eq]; omega), y18 hK, hk]
     exact t310 (zcz hsm (y6j hf.e (by rw [List.length_set]; omega)) (by rw [List.length_set]; omega) (y6S hK (wrong3 (by omega) _ rfl)))
    rw [if_neg (by rw [decide_eq_true_eq]; exact q3)]
    by_cases q4 : Q = 4
    ·rw [if_pos (decide_eq_true q4), y18 (by omega), y18 (by simp; omega)]
     refine y4o (P := fun o => o = some true) fun k hk => ?_
     rw [if_pos (by simp only [Bool.and_eq_true, decide_eq_true_eq]; omega), y18 hK, hk]
     exact t310 (zcz hsm (y6j hf.e (by rw [List.length_append, List.length_singleton]; omega)) (by rw [List.length_set]; omega) (y6S hK (wrong4 (by omega))))
    rw [if_neg (by rw [decide_eq_true_eq]; exact q4)]
    by_cases q5 : Q = 5
    ·rw [if_pos (decide_eq_true q5), y18 (by omega)]
     refine y4o (P := fun o => o = some true) fun k hk => ?_
     rw [if_pos (by simp only [Bool.and_eq_true, decide_eq_true_eq]; omega), y18 hK, hk]
     exact t310 (zcz hsm (y6j hf.e (by rw [List.length_set]; omega)) (by rw [List.length_set]; omega) (y6S hK (wrong5 hsm (by omega) _ rfl)))
    rw [if_neg (by rw [decide_eq_true_eq]; exact q5)]
    have fin : ∀ x : Snt, ¬ (0 ≤ x.fTime ∧ x.fTime ≤ 536870912 ∧ 0 ≤ x.fVL ∧ x.fVL < c.fVLs.length ∧ 1 ≤ x.fSize ∧ x.fSize ≤ 72) → yA c net rs = some true ∧ yI c net rs (sent ++ [x]) = some ([], [], 311) := by
     intro x hx
     exact zA9 hsm hrs (by omega) g.va (by rw [List.length_append, List.length_singleton]; omega) fun h => hx (frm_app h)
    by_cases q6 : Q = 6
    ·rw [if_pos (decide_eq_true q6), y18 (by rw [List.length_append, List.length_singleton]; omega)]
     refine y4o (P := fun o => o = some true) fun k hk => ?_
     rw [if_neg (by simp only [Bool.and_eq_true, decide_eq_true_eq]; omega), hk]
     exact t311 (fin _ (by simp))
    rw [if_neg (by rw [decide_eq_true_eq]; exact q6)]
    by_cases q7 : Q = 7
    ·rw [if_pos (decide_eq_true q7), y18 (by rw [List.length_append, List.length_singleton]; omega)]
     refine y4o (P := fun o => o = some true) fun k hk => ?_
     rw [if_neg (by simp only [Bool.and_eq_true, decide_eq_true_eq]; omega), hk]
     exact t311 (fin _ (by simp))
    rw [if_neg (by rw [decide_eq_true_eq]; exact q7)]
    have q8 : Q = 8 := by omega
    rw [if_pos (decide_eq_true q8), y18 (by rw [List.length_append, List.length_singleton]; omega)]
    refine y4o (P := fun o => o = some true) fun k hk => ?_
    rw [if_neg (by simp only [Bool.and_eq_true, decide_eq_true_eq]; omega), hk]
    exact t311 (fin _ (by simp))
end Go.Proofs.Ytinchjigeakocaa
