/- A part of this claim's proof: models of functions, walks, plain laws. No conditions. -/
import Derived.Test.YtakfmdiiehcbdaaGreatPYf
namespace Go.Proofs.YtakfmdiiehcbdaaGreat
open Go Go.RowKit Sep
set_option linter.all false
/-! ### Breaks -/
def bpA (p : B × B) : Rat := bq p.2 - bq p.1
def bpD (p : B × B) : Rat := rq p.1 - rq p.2
def bp (p : B × B) : Rat := bpA p / bpD p
def y4P (p : B × B) : Bool := fits (bpA p) && fits (bpD p) && fits (bp p)
def bl (p : B × B) : Bool := decide (bq p.1 < bq p.2)
def bok (p : B × B) : Bool := !bl p || y4P p
def bg (p : B × B) : List R := if bl p then [ofQ (bp p)] else []
theorem yc7 {p : B × B} {out : List R} (h1 : GB p.1 = true) (h2 : GB p.2 = true) (hd : bl p = true → rq p.2 < rq p.1) (hl : out.length < 2000) :
  (bok p = true → y1e p out 0 = some (true, (0, out ++ bg p, 0))) ∧ (bok p = false → ∃ o, o.length ≤ out.length + 1 ∧ y1e p out 0 = some (true, (0, o, 3))) ∧ ∃ o, o.length ≤ out.length + 1 ∧ y1e p out 3 = some (true, (0, o, 3)) := by
 unfold y1e
 rw [cmpb h1 h2]
 simp only [Option.bind_some]
 have a1 := do_ok (f := fun y0 y1 => y1v y0 y1) (y9O (y2I (y5H h2)) (y2I (y5H h1)))
 have a2 := do_ok (f := fun y0 y1 => y1v y0 y1) (y9O (y2I (y5s h1)) (y2I (y5s h2)))
 have e1 : val p.2.fB - val p.1.fB = bpA p := rfl
 have e2 : val p.1.fR - val p.2.fR = bpD p := rfl
 rw [e1] at a1; rw [e2] at a2
 unfold bok bg
 by_cases hb : bq p.1 < bq p.2
 ·have hbl : bl p = true := decide_eq_true hb
  rw [if_pos (decide_eq_true (y3W.2 hb)), if_pos (decide_eq_true (y3W.2 hb))]
  rw [hbl, if_pos rfl]
  have hpos : 0 < bpD p := by have := hd hbl; unfold bpD; grind
  have l1 : ∀ v : R, (((out ++ [v]).length : Nat) : Int) * 16 ≤ 140737488355328 ∧ (((out ++ [v]).length : Nat) : Int) ≤ 4611686018427387904 := fun v => by
   simp only [List.length_append, List.length_cons, List.length_nil]; omega
  refine ⟨fun hk => ?_, fun hk => ?_, ?_⟩
  ·simp only [Bool.not_true, Bool.false_or, y4P, Bool.and_eq_true] at hk
   obtain ⟨⟨f1, f2⟩, f3⟩ := hk
   rw [a1, f1, if_pos rfl, Option.bind_some]
   simp only []
   rw [a2, f2, if_pos rfl, Option.bind_some]
   simp only []
   have hn : (ofQ (bpD p)).fN ≠ 0 := by
    intro h0
    have h1 : (bpD p).num = 0 := h0
    rw [Rat.num_eq_zero.1 h1] at hpos
    exact absurd hpos (by decide)
   have a3 := do_ok (f := fun y0 y1 => y2g y0 y1) (y9P (y5i f1) (y5i f2) hn)
   rw [y4d, y4d] at a3
   have e3 : bpA p / bpD p = bp p := rfl
   rw [e3, f3, if_pos rfl] at a3
   rw [a3, Option.bind_some]
   rw [ym (l1 _)]
  ·simp only [Bool.not_true, Bool.false_or, y4P] at hk
   cases f1 : fits (bpA p) with
   | false =>
    rw [a1, f1, if_neg Bool.false_ne_true, Option.bind_some]
    simp only []
    rw [y7T (by decide), Option.bind_some]
    simp only []
    rw [y7T (by decide), Option.bind_some, ym (l1 _)]
    exact ⟨_, by simp, rfl⟩
   | true =>
    rw [a1, f1, if_pos rfl, Option.bind_some]
    simp only []
    cases f2 : fits (bpD p) with
    | false =>
     rw [a2, f2, if_neg Bool.false_ne_true, Option.bind_some]
     simp only []
     rw [y7T (by decide), Option.bind_some, ym (l1 _)]
     exact ⟨_, by simp, rfl⟩
    | true =>
     rw [a2, f2, if_pos rfl, Option.bind_some]
     simp only []
     have hn : (ofQ (bpD p)).fN ≠ 0 := by
      intro h0
      have h1 : (bpD p).num = 0 := h0
      rw [Rat.num_eq_zero.1 h1] at hpos
      exact absurd hpos (by decide)
     have a3 := do_ok (f := fun y0 y1 => y2g y0 y1) (y9P (y5i f1) (y5i f2) hn)
     rw [y4d, y4d] at a3
     have e3 : bpA p / bpD p = bp p := rfl
     rw [f1, f2, Bool.true_and, Bool.true_and] at hk
     rw [e3, hk, if_neg Bool.false_ne_true] at a3
     rw [a3, Option.bind_some, ym (l1 _)]
     exact ⟨_, by simp, rfl⟩
  ·rw [y7T (by decide), Option.bind_some]
   simp only []
   rw [y7T (by decide), Option.bind_some]
   simp only []
   rw [y7T (by decide), Option.bind_some, ym (l1 _)]
   exact ⟨_, by simp, rfl⟩
 ·have hbl : bl p = false := decide_eq_false hb
  have hn : ¬ decide (y3K (bq p.1) (bq p.2) < 0) = true := fun h => hb (y3W.1 (of_decide_eq_true h))
  rw [if_neg hn, if_neg hn, hbl, if_neg Bool.false_ne_true]
  refine ⟨fun _ => by rw [List.append_nil], fun h => by simp at h, ⟨out, by omega, rfl⟩⟩
theorem y8J : ∀ {l : List B}, (l.Pairwise fun x y => bq x < bq y ∧ rq y < rq x) → ∀ {x y : B}, x ∈ l → y ∈ l → bq x < bq y → rq y < rq x
 | [], _, x, y, hx, _, _ => by simp at hx
 | z :: l, h, x, y, hx, hy, hxy => by
  obtain ⟨h1, h2⟩ := List.pairwise_cons.1 h
  rcases List.mem_cons.1 hx with e | hx'
  ·subst e
   rcases List.mem_cons.1 hy with e | hy'
   ·subst e; grind
   ·exact (h1 y hy').2
  ·rcases List.mem_cons.1 hy with e | hy'
   ·subst e; have := (h1 x hx').1; grind
   ·exact y8J h2 hx' hy' hxy
theorem bok_fit {p : B × B} (h : bok p = true) (h2 : bl p = true) : fits (bp p) = true := by
 unfold bok y4P at h
 rw [h2] at h
 simp only [Bool.not_true, Bool.false_or, Bool.and_eq_true] at h
 exact h.2
theorem yaq {c : List B} (hc : VC c = true) :
  if (y46 (yR c) (yR c)).all bok then ∃ r, y1k c = some (r, 0) ∧ Inc r ∧ (∀ v, v ∈ r ↔ ∃ p, (p.1 ∈ yR c ∧ p.2 ∈ yR c) ∧ bl p = true ∧ v = ofQ (bp p)) ∧ (∀ v ∈ r, V v = true) ∧ r.length ≤ 1100
  else y1k c = some ([], 3) := by
 have la := y7g hc; have na := yb9 c
 have ga := ybd (y55 hc)
 unfold y1k
 rw [y4k, hc, norm_eq (y55 hc) (by omega)]
 simp only [Option.bind_some, Bool.not_true, Bool.false_eq_true, if_false]
 have hp := ybv (yR c) (yR c)
 have hm : (yR c).length * (yR c).length ≤ 32 * 32 := Nat.mul_le_mul (by omega) (by omega)
 obtain ⟨o, ho⟩ := (ybL (y := fun (x : B × B) (s : Nat × List R × Int) => chk (s.1 = 0) (y1e x s.2.1 s.2.2)) (ok := bok) (g := bg) (N := 1100) (y46 (yR c) (yR c)) [] (by rw [hp]; simp; omega) (by
   intro p hp
   have hm := y6l.1 hp
   refine ⟨by unfold bg; split <;> simp, fun out hl => ?_⟩
   have st := yc7 (p := p) (out := out) (ga _ hm.1) (ga _ hm.2) (fun h => y8J y5w hm.1 hm.2 (of_decide_eq_true h)) (by omega)
   refine ⟨fun hk => ?_, fun hk => ?_, ?_⟩
   ·show chk (0 = 0) (y1e p out 0) = _
    rw [ym rfl]; exact st.1 hk
   ·obtain ⟨o, h1, h2⟩ := st.2.1 hk
    refine ⟨o, h1, ?_⟩
    show chk (0 = 0) (y1e p out 0) = _
    rw [ym rfl]; exact h2
   ·obtain ⟨o, h1, h2⟩ := st.2.2
    refine ⟨o, h1, ?_⟩
    show chk (0 = 0) (y1e p out 3) = _
    rw [ym rfl]; exact h2)).2
 have key : ∀ k : Int → List R → Option (List R × Int), (y4H (yR c) (yR c)).bind (fun zvc => (y3D (Nat × List R × Int) (fun (x : B × B) (s : Nat × List R × Int) => chk (s.1 = 0) (y1e x s.2.1 s.2.2)) (0, ([] : List R), 0) zvc.1 zvc.2).bind fun zvd => k zvd.2.2 zvd.2.1) = if (y46 (yR c) (yR c)).all bok then k 0 ((y46 (yR c) (yR c)).flatMap bg) else k 3 o := by
  intro k
  unfold y4H
  rw [Option.bind_some]
  simp only []
  rw [pairs_eq (by omega) (by omega), ho, Option.bind_some]
  split <;> simp
 cases hf : (y46 (yR c) (yR c)).all bok with
 | true =>
  rw [if_pos rfl]
  refine y3o (P := fun (o : Option (List R × Int)) => ∃ r, o = some (r, 0) ∧ Inc r ∧ (∀ v, v ∈ r ↔ ∃ p, (p.1 ∈ yR c ∧ p.2 ∈ yR c) ∧ bl p = true ∧ v = ofQ (bp p)) ∧ (∀ v ∈ r, V v = true) ∧ r.length ≤ 1100) fun k hk => ?_
  rw [key, hf, if_pos rfl, hk, if_neg (by simp)]
  have hmem : ∀ v, v ∈ (y46 (yR c) (yR c)).flatMap bg ↔ ∃ p, (p.1 ∈ yR c ∧ p.2 ∈ yR c) ∧ bl p = true ∧ v = ofQ (bp p) := by
   intro v
   rw [List.mem_flatMap]
   constructor
   ·rintro ⟨p, hp, hv⟩
    unfold bg at hv
    cases hb : bl p with
    | true => rw [hb, if_pos rfl] at hv; exact ⟨p, y6l.1 hp, hb, by simpa using hv⟩
    | false => rw [hb] at hv; simp at hv
   ·rintro ⟨p, hp, hb, rfl⟩
    exact ⟨p, y6l.2 hp, by unfold bg; rw [hb, if_pos rfl]; simp⟩
  have hV : ∀ v ∈ (y46 (yR c) (yR c)).flatMap bg, V v = true := by
   intro v hv
   obtain ⟨p, hp, hb, rfl⟩ := (hmem v).1 hv
   exact y5i (bok_fit (List.all_eq_true.1 hf p (y6l.2 hp)) hb)
  have hlen : ((y46 (yR c) (yR c)).flatMap bg).length ≤ 1100 := by
   have : ∀ l : List (B × B), (l.flatMap bg).length ≤ l.length := by
    intro l
    induction l with
    | nil => simp
    | cons x l ih =>
     rw [List.flatMap_cons, List.length_append, List.length_cons]
     have : (bg x).length ≤ 1 := by unfold bg; split <;> simp
     omega
   have := this (y46 (yR c) (yR c)); omega
  rw [sortR_eq (key := val) (fun x hx y hy => y67 (hV x hx) (hV y hy)) (fun x hx y hy h => y8X (hV x hx) (hV y hy) h) (by omega), Option.bind_some]
  have hperm := y6V val ((y46 (yR c) (yR c)).flatMap bg)
  obtain ⟨r, e, h1, h2, h3⟩ := yc6 (s0 := y6U val ((y46 (yR c) (yR c)).flatMap bg)) (fun x hx => hV x (hperm.mem_iff.1 hx)) (y7h _ _) (by rw [hperm.length_eq]; omega)
  rw [e, Option.bind_some]
  refine ⟨r, rfl, h1, fun v => ?_, fun v hv => hV v (hperm.mem_iff.1 ((h2 v).1 hv)), by rw [hperm.length_eq] at h3; omega⟩
  rw [h2, hperm.mem_iff, hmem]
 | false =>
  rw [if_neg Bool.false_ne_true]
  refine y3o (P := fun o => o = _) fun k hk => ?_
  rw [key, hf, if_neg Bool.false_ne_true, hk]
  simp
theorem y9S {c : List B} (h : VC c = false) : y1k c = some ([], 2) := by
 unfold y1k
 rw [y4k, h]; rfl
end Go.Proofs.YtakfmdiiehcbdaaGreat
