/- A part of this claim's proof: models of functions, walks, plain laws. No conditions. -/
import Derived.Test.YtcahmabkeaijdaaGreatPBo
namespace Go.Proofs.YtcahmabkeaijdaaGreat
open Go Go.RowKit Sep
set_option linter.all false
def EL (rs : List (List Hop)) : List (Hop × Hop) := rs.flatMap fun r => r.flatMap fun h => r.map fun g => (g, h)
theorem ycV {rs : List (List Hop)} {g h : Hop} : (g, h) ∈ EL rs ↔ ∃ r ∈ rs, g ∈ r ∧ h ∈ r := by
 unfold EL
 simp only [List.mem_flatMap, List.mem_map, Prod.mk.injEq]
 exact ⟨fun ⟨r, hr, h', hh, g', hg, e1, e2⟩ => ⟨r, hr, e1 ▸ hg, e2 ▸ hh⟩, fun ⟨r, hr, hg, hh⟩ => ⟨r, hr, h, hh, g, hg, rfl, rfl⟩⟩
theorem EL_fold (rs : List (List Hop)) (s : BS) : rs.foldl rnd1 s = (EL rs).foldl (fun s x => stp s x.1 x.2) s := by
 unfold EL
 rw [List.foldl_flatMap]
 congr 1
 funext s r
 unfold rnd1
 rw [List.foldl_flatMap]
 congr 1
 funext s h
 rw [List.foldl_map]
theorem ybD {α β : Type} {m : Nat} (f : α → List β) (l : List α) (h : ∀ x ∈ l, (f x).length ≤ m) : (l.flatMap f).length ≤ l.length * m := by
 induction l with
 | nil => simp
 | cons x l ih =>
  have := ih fun y hy => h y (List.mem_cons_of_mem _ hy)
  have h1 := h x (by simp)
  rw [List.flatMap_cons, List.length_append, List.length_cons, Nat.succ_mul]; omega
theorem EL_len {rs : List (List Hop)} (hr : ∀ r ∈ rs, r.length ≤ 100) (hl : rs.length ≤ 100) : (EL rs).length ≤ 1000000 := by
 have h1 : (EL rs).length ≤ rs.length * 10000 := ybD _ _ fun r h => by
  have h2 : (r.flatMap fun h => r.map fun g => (g, h)).length ≤ r.length * 100 := ybD _ _ fun x _ => by
   rw [List.length_map]; exact hr r h
  have := hr r h
  have : r.length * 100 ≤ 100 * 100 := Nat.mul_le_mul_right _ this
  omega
 omega
def vl (s : BS) (p : Pl) : Int := yp s.2.2 (k6 p) 0
def sm (f : Pl → Int) (l : List Pl) : Int := (l.map f).sum
theorem ybE {f g : Pl → Int} : ∀ {l : List Pl}, (∀ p ∈ l, f p ≤ g p) → sm f l ≤ sm g l
 | [], _ => by simp [sm]
 | p :: l, h => by
  have h1 := h p (by simp)
  have h2 := ybE (l := l) fun q hq => h q (List.mem_cons_of_mem _ hq)
  unfold sm at *; simp only [List.map_cons, List.sum_cons]; omega
theorem sm_lt {f g : Pl → Int} {p : Pl} : ∀ {l : List Pl}, (∀ p ∈ l, f p ≤ g p) → p ∈ l → f p < g p → sm f l < sm g l
 | [], _, hp, _ => by simp at hp
 | q :: l, h, hp, hlt => by
  have h1 := h q (by simp)
  have h2 := ybE (l := l) fun q hq => h q (List.mem_cons_of_mem _ hq)
  rcases List.mem_cons.1 hp with rfl | hp
  ·unfold sm at *; simp only [List.map_cons, List.sum_cons]; omega
  ·have h3 := sm_lt (l := l) (fun q hq => h q (List.mem_cons_of_mem _ hq)) hp hlt
   unfold sm at *; simp only [List.map_cons, List.sum_cons]; omega
theorem sm_bd {f : Pl → Int} {m : Int} : ∀ {l : List Pl}, (∀ p ∈ l, f p ≤ m) → sm f l ≤ l.length * m
 | [], _ => by simp [sm]
 | p :: l, h => by
  have h1 := h p (by simp)
  have h2 := sm_bd (l := l) fun q hq => h q (List.mem_cons_of_mem _ hq)
  have e : (((p :: l).length : Nat) : Int) * m = l.length * m + m := by
   rw [List.length_cons, Int.natCast_add, Int.add_mul]; simp
  rw [e]
  unfold sm at *; simp only [List.map_cons, List.sum_cons]; omega
structure RI (rs : List (List Hop)) (ρ : Pl → Int) (hρ : Prop) (k : Nat) (s t : BS) : Prop where
 km : KM rs t.2.2
 up : ∀ p ∈ PS rs, vl s p ≤ vl t p
 bd : ∀ B : Int, (∀ p ∈ PS rs, vl s p ≤ B) → ∀ p ∈ PS rs, vl t p ≤ B + k
 cy : s.1 = true → t.1 = true
 ch : s.2.1 = true → t.2.1 = true
 no : t.2.1 = false → t = s
 su : t.2.1 = true → s.2.1 = true ∨ sm (vl s) (PS rs) < sm (vl t) (PS rs)
 lim : t.1 = false → (∀ p ∈ PS rs, vl s p ≤ (PS rs).length) → ∀ p ∈ PS rs, vl t p ≤ (PS rs).length
 rk : hρ → (∀ p ∈ PS rs, vl s p ≤ ρ p) → (∀ p ∈ PS rs, vl t p ≤ ρ p) ∧ t.1 = s.1
theorem RI.refl {rs : List (List Hop)} {ρ : Pl → Int} {hρ : Prop} {s : BS} (h : KM rs s.2.2) : RI rs ρ hρ 0 s s :=
 ⟨h, fun _ _ => Int.le_refl _, fun B hB p hp => by have := hB p hp; omega, id, id, fun _ => rfl, .inl, fun _ h => h, fun _ h => ⟨h, rfl⟩⟩
theorem RI.trans {rs : List (List Hop)} {ρ : Pl → Int} {hρ : Prop} {i j : Nat} {s t u : BS} (h : RI rs ρ hρ i s t) (k : RI rs ρ hρ j t u) : RI rs ρ hρ (i + j) s u where
 km := k.km
 up := fun p hp => Int.le_trans (h.up p hp) (k.up p hp)
 bd := fun B hB p hp => by have := k.bd _ (h.bd B hB) p hp; omega
 cy := fun e => k.cy (h.cy e)
 ch := fun e => k.ch (h.ch e)
 no := fun e => by
  have e1 := k.no e
  subst e1; exact h.no e
 su := fun e => by
  rcases k.su e with e1 | e1
  ·rcases h.su e1 with e2 | e2
   ·exact .inl e2
   ·exact .inr (Int.lt_of_lt_of_le e2 (ybE k.up))
  ·exact .inr (Int.lt_of_le_of_lt (ybE h.up) e1)
 lim := fun e hs => by
  have e1 : t.1 = false := by
   cases ht : t.1 with
   | false => rfl
   | true => rw [k.cy ht] at e; cases e
  exact k.lim e (h.lim e1 hs)
 rk := fun e hs => by
  obtain ⟨a1, a2⟩ := h.rk e hs
  obtain ⟨b1, b2⟩ := k.rk e a1
  exact ⟨b1, b2.trans a2⟩
theorem RI.step {rs : List (List Hop)} {ρ : Pl → Int} {hρ : Prop} {s : BS} {g h : Hop} (hk : KM rs s.2.2) (hg : pk g ∈ PS rs) (hh : pk h ∈ PS rs) (hb : ∀ p ∈ PS rs, 0 ≤ vl s p ∧ vl s p ≤ 4000000000000000000)
  (hr : hρ → (g.fNext = h.fNode → ρ (pk g) < ρ (pk h)) ∧ ∀ p ∈ PS rs, ρ p ≤ (PS rs).length) : RI rs ρ hρ 1 s (stp s g h) ∧ ((stp s g h).2.1 = false → g.fNext = h.fNode → vl s (pk g) < vl s (pk h)) := by
 by_cases hc : (decide (g.fNext = h.fNode)) && (decide (yp s.2.2 (k6 (pk h)) 0 ≤ yp s.2.2 (k6 (pk g)) 0))
 ·have e : stp s g h = (s.1 || decide (yp s.2.2 (k6 (pk g)) 0 + 1 > (PS rs).length), true, yG s.2.2 (k6 (pk h)) (yp s.2.2 (k6 (pk g)) 0 + 1)) := by
   have h1 := hb _ hg
   unfold vl at h1
   unfold stp
   rw [if_pos hc, y1H (x := yp s.2.2 (k6 (pk g)) 0 + 1) (by omega), y8H, if_pos rfl, (hk.put hh _).len]
  simp only [Bool.and_eq_true, decide_eq_true_eq] at hc
  obtain ⟨c1, c2⟩ := hc
  have hv : ∀ p, vl (stp s g h) p = if p = pk h then vl s (pk g) + 1 else vl s p := fun p => by
   unfold vl; rw [e]
   rw [y8H]
   by_cases hp : p = pk h
   ·subst hp; rw [if_pos rfl, if_pos rfl]
   ·rw [if_neg (fun hq => hp (ycU hq)), if_neg hp]
  have c3 : vl s (pk h) ≤ vl s (pk g) := c2
  refine ⟨⟨?_, ?_, ?_, ?_, ?_, ?_, ?_, ?_, ?_⟩, ?_⟩
  ·rw [e]; exact hk.put hh _
  ·intro p hp; rw [hv]; split
   ·rename_i hq; subst hq; omega
   ·omega
  ·intro B hB p hp; rw [hv]
   have := hB _ hg; have := hB p hp
   split <;> omega
  ·intro h1; rw [e]; simp [h1]
  ·intro h1; rw [e]
  ·intro h1; rw [e] at h1; cases h1
  ·intro _
   refine .inr (sm_lt (p := pk h) (fun p hp => ?_) hh ?_)
   ·rw [hv]; split
    ·rename_i hq; subst hq; omega
    ·omega
   ·rw [hv, if_pos rfl]; omega
  ·intro h1 hs p hp
   rw [e] at h1
   simp only [Bool.or_eq_false_iff, decide_eq_false_iff_not] at h1
   rw [hv]; split
   ·have := h1.2; unfold vl; omega
   ·exact hs p hp
  ·intro e1 hs
   obtain ⟨r1, r2⟩ := hr e1
   have r3 := r1 c1
   have q1 := hs _ hg
   have q2 := r2 _ hh
   refine ⟨fun p hp => ?_, ?_⟩
   ·rw [hv]; split
    ·rename_i hq; subst hq; omega
    ·exact hs p hp
   ·rw [e]
    have : ¬ (yp s.2.2 (k6 (pk g)) 0 + 1 > (PS rs).length) := by unfold vl at q1; omega
    simp [this]
  ·intro h1; rw [e] at h1; cases h1
 ·have e : stp s g h = s := by unfold stp; rw [if_neg hc]
  rw [e]
  have := RI.refl (ρ := ρ) (hρ := hρ) hk
  refine ⟨⟨this.km, this.up, fun B hB p hp => by have := hB p hp; omega, this.cy, this.ch, this.no, this.su, this.lim, this.rk⟩, fun h1 h2 => ?_⟩
  simp only [Bool.and_eq_true, decide_eq_true_eq] at hc
  unfold vl
  by_cases h3 : yp s.2.2 (k6 (pk h)) 0 ≤ yp s.2.2 (k6 (pk g)) 0
  ·exact absurd ⟨h2, h3⟩ hc
  ·omega
theorem RI.fold {rs : List (List Hop)} {ρ : Pl → Int} {hρ : Prop} : ∀ (es : List (Hop × Hop)) (s : BS), KM rs s.2.2 → (∀ x ∈ es, pk x.1 ∈ PS rs ∧ pk x.2 ∈ PS rs) → (∀ p ∈ PS rs, 0 ≤ vl s p ∧ vl s p + es.length ≤ 4000000000000000000) →
  (hρ → (∀ x ∈ es, x.1.fNext = x.2.fNode → ρ (pk x.1) < ρ (pk x.2)) ∧ ∀ p ∈ PS rs, ρ p ≤ (PS rs).length) →
  RI rs ρ hρ es.length s (es.foldl (fun s x => stp s x.1 x.2) s) ∧ ((es.foldl (fun s x => stp s x.1 x.2) s).2.1 = false → ∀ x ∈ es, x.1.fNext = x.2.fNode → vl s (pk x.1) < vl s (pk x.2))
 | [], s, hk, _, _, _ => ⟨RI.refl hk, fun _ x hx => by simp at hx⟩
 | x :: es, s, hk, hm, hb, hr => by
  obtain ⟨m1, m2⟩ := hm x (by simp)
  obtain ⟨a1, a2⟩ := RI.step (ρ := ρ) (hρ := hρ) hk m1 m2 (fun p hp => by have := hb p hp; simp only [List.length_cons] at this; omega) (fun e => ⟨(hr e).1 x (by simp), (hr e).2⟩)
  have hB : ∀ p ∈ PS rs, vl s p ≤ 4000000000000000000 - (es.length + 1 : Nat) := fun p hp => by have := hb p hp; simp only [List.length_cons] at this; omega
  obtain ⟨b1, b2⟩ := RI.fold es (stp s x.1 x.2) a1.km (fun y hy => hm y (List.mem_cons_of_mem _ hy)) (fun p hp => by
   have h1 := a1.bd _ hB p hp; have h2 := a1.up p hp; have h3 := hb p hp; omega) (fun e => ⟨fun y hy => (hr e).1 y (List.mem_cons_of_mem _ hy), (hr e).2⟩)
  rw [List.foldl_cons]
  refine ⟨?_, fun h y hy => ?_⟩
  ·have := a1.trans b1
   rw [List.length_cons, Nat.add_comm]; exact this
  ·have h1 := b1.no h
   have h2 : (stp s x.1 x.2).2.1 = false := by rw [← h1]; exact h
   have h3 := a1.no h2
   rcases List.mem_cons.1 hy with rfl | hy
   ·exact a2 h2
   ·have := b2 h y hy
    rw [h3] at this; exact this
end Go.Proofs.YtcahmabkeaijdaaGreat
