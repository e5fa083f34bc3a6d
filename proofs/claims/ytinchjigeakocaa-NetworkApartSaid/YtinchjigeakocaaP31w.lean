/- A part of this claim's proof: models of functions, walks, plain laws. No conditions. -/
import Derived.Test.YtinchjigeakocaaP31i
namespace Go.Proofs.Ytinchjigeakocaa
open Go Go.RowKit Sep
set_option linter.all false
theorem y9D {α : Type} {R : α → α → Prop} {l : List α} (h : l.Pairwise R) {a b : α} (ha : a ∈ l) (hb : b ∈ l) (hab : a ≠ b) : R a b ∨ R b a := by
 obtain ⟨i, hi, rfl⟩ := List.getElem_of_mem ha
 obtain ⟨j, hj, rfl⟩ := List.getElem_of_mem hb
 rw [List.pairwise_iff_getElem] at h
 rcases Nat.lt_trichotomy i j with hij | hij | hij
 ·exact .inl (h i j hi hj hij)
 ·subst hij; exact absurd rfl hab
 ·exact .inr (h j i hj hi hij)
section
variable {c : Cf} {net : Int} {rs : List (List Hop)} {sent : List Snt}
theorem Rc.same (g : Sg c net rs sent) {S : St} {H : List Rc} (h : JV c net rs sent S H) {a b : Rc} (ha : a ∈ H) (hb : b ∈ H) (e : a.id = b.id) : a = b := by
 by_cases hab : a = b
 ·exact hab
 ·have hnd := (List.nodup_append.1 h.iv.nd).1
  rw [List.nodup_iff_pairwise_ne, List.pairwise_map] at hnd
  rcases y9D hnd ha hb hab with q | q
  ·exact absurd e q
  ·exact absurd e.symm q
theorem come_rec {H : List Rc} {come : List Cm} (hp : come.Perm (H.filterMap (y89 c))) {x : Cm} (hx : x ∈ come) : ∃ r ∈ H, r.ev.fSent = x.fSent ∧ r.ev.fHop.fNext = x.fNode ∧ r.out = some x.fTime ∧ x.fNode < nM c := by
 obtain ⟨r, hr, he⟩ := List.mem_filterMap.1 (hp.mem_iff.1 hx)
 refine ⟨r, hr, ?_⟩
 unfold y89 at he
 cases ho : r.out with
 | none => rw [ho] at he; simp at he
 | some t =>
  rw [ho, Option.bind_some] at he
  split at he
  ·rename_i hn
   cases he
   exact ⟨rfl, rfl, rfl, hn⟩
  ·simp at he
theorem lost_rec {H : List Rc} {lost : List Cm} (hp : lost.Perm (H.filterMap y7j)) {x : Cm} (hx : x ∈ lost) : ∃ r ∈ H, r.ev.fSent = x.fSent ∧ r.ev.fHop.fNode = x.fNode ∧ r.ev.fTime = x.fTime := by
 obtain ⟨r, hr, he⟩ := List.mem_filterMap.1 (hp.mem_iff.1 hx)
 refine ⟨r, hr, ?_⟩
 unfold y7j at he
 split at he
 ·cases he; exact ⟨rfl, rfl, rfl⟩
 ·simp at he
end
end Go.Proofs.Ytinchjigeakocaa
