/- A part of this claim's proof: models of functions, walks, plain laws. No conditions. -/
import Derived.Test.YtcahmabkeaijdaaGreatP35c
namespace Go.Proofs.YtcahmabkeaijdaaGreat
open Go Go.RowKit Sep
set_option linter.all false
/-! ### what a valid route is -/
theorem ydk {α : Type} [Inhabited α] {l : List α} {x : α} (h : x ∈ l) : ∃ i : Int, 0 ≤ i ∧ i < l.length ∧ nth l i = x := by
 obtain ⟨i, hi, rfl⟩ := List.getElem_of_mem h
 refine ⟨(i : Int), by omega, by omega, ?_⟩
 rw [nthEq ⟨by omega, by omega⟩]; rfl
theorem VR.uniq {c : Cf} {net : Int} {r : List Hop} (h : VR c net r) {x y : Hop} (hx : x ∈ r) (hy : y ∈ r) (e : x.fNext = y.fNext) : x = y := by
 obtain ⟨i, i0, i1, rfl⟩ := ydk hx
 obtain ⟨j, j0, j1, rfl⟩ := ydk hy
 rcases Int.lt_trichotomy i j with k | k | k
 ·exact absurd (.inr ⟨i, i0, k, e⟩) (h.cond j j0 j1).2.1
 ·rw [k]
 ·exact absurd (.inr ⟨j, j0, k, e.symm⟩) (h.cond i i0 i1).2.1
theorem VR.into {c : Cf} {net : Int} {r : List Hop} (h : VR c net r) {g : Hop} (hg : g ∈ r) : y5Z r g.fNext = (g, true) := by
 have h1 := intoF_of hg
 obtain ⟨h2, h3⟩ := ybW h1
 exact Prod.ext (h.uniq h2 hg h3) h1
def Edg (rs : List (List Hop)) (a b : Pl) : Prop := ∃ r ∈ rs, ∃ g ∈ r, ∃ h ∈ r, g.fNext = h.fNode ∧ pk g = a ∧ pk h = b
theorem ycg {c : Cf} {net : Int} {rs : List (List Hop)} (hv : VA c net rs) {a b : Pl} : Edg rs a b ↔ Pred rs b a := by
 constructor
 ·rintro ⟨r, hr, g, hg, h, hh, e, rfl, rfl⟩
  refine ⟨r, hr, h, hh, rfl, ?_⟩
  rw [← e, (hv.each r hr).into hg]; exact ⟨rfl, rfl⟩
 ·rintro ⟨r, hr, h, hh, rfl, e, rfl⟩
  obtain ⟨h2, h3⟩ := ybW e
  exact ⟨r, hr, _, h2, h, hh, h3, rfl, rfl⟩
theorem Edg.left {rs : List (List Hop)} {a b : Pl} (h : Edg rs a b) : a ∈ PS rs := by
 obtain ⟨r, hr, g, hg, h, hh, e, rfl, rfl⟩ := h; exact (y8I rs _).2 ⟨r, hr, g, hg, rfl⟩
theorem Edg.right {rs : List (List Hop)} {a b : Pl} (h : Edg rs a b) : b ∈ PS rs := by
 obtain ⟨r, hr, g, hg, h, hh, e, rfl, rfl⟩ := h; exact (y8I rs _).2 ⟨r, hr, h, hh, rfl⟩
theorem y8k.no {c : Cf} {net : Int} {rs : List (List Hop)} (hv : VA c net rs) {s : List Pl} (h : y8k rs s) (f : Pl → Int) (h0 : ∀ p ∈ PS rs, 0 ≤ f p) (hf : ∀ a b, Edg rs a b → f a < f b) : False := by
 obtain ⟨hne, hs⟩ := h
 have key : ∀ n : Nat, ∀ p ∈ s, (f p).toNat < n → False := by
  intro n
  induction n with
  | zero => intro p hp h; omega
  | succ n ih =>
   intro p hp hlt
   obtain ⟨hp1, q, hq, hqp⟩ := hs p hp
   have h1 := hf q p ((ycg hv).2 hqp)
   have h2 := h0 q (hs q hq).1
   exact ih q hq (by omega)
 cases s with
 | nil => exact hne rfl
 | cons p s => exact key ((f p).toNat + 1) p (by simp) (by omega)
theorem y5m.idx {c : Cf} {net : Int} {rs : List (List Hop)} (hv : VA c net rs) {l : List Pl} (h : y5m rs l) (hp : l.Perm (PS rs)) {a b : Pl} (he : Edg rs a b) : l.idxOf a < l.idxOf b := by
 have hb : b ∈ l := hp.symm.subset he.right
 obtain ⟨l1, l2, e⟩ := List.append_of_mem hb
 have hn : l.Nodup := hp.nodup_iff.2 (y9W rs)
 have ha := h l1 b l2 e a ((ycg hv).1 he)
 have hb1 : b ∉ l1 := fun hc => by
  rw [e] at hn; exact (List.nodup_append.1 hn).2.2 b hc b (by simp) rfl
 rw [e, List.idxOf_append, if_pos ha, List.idxOf_append, if_neg hb1]
 have := List.idxOf_lt_length_of_mem ha
 omega
end Go.Proofs.YtcahmabkeaijdaaGreat
