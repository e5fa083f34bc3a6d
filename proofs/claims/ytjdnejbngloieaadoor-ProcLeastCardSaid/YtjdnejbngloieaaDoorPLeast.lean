/- A part of this claim's proof: models of functions, walks, plain laws. No conditions. -/
import Derived.Test.YtjdnejbngloieaaDoorWProcLeast
import Derived.Test.YtjdnejbngloieaaDoorP26w
namespace Go.Proofs.YtjdnejbngloieaaDoor
open Go Go.RowKit Sep
set_option linter.all false
theorem succ_asc (code : List Sapi_Ins) (i : Int) : (y15 code i).Pairwise (· < ·) := by
 have h2 : ∀ a b : Int, (y34 a b).Pairwise (· < ·) := fun a b => by
  unfold y34
  split
  ·simp
  ·split
   ·simp; omega
   ·simp; omega
 unfold y15
 split
 ·split
  ·simp
  ·split
   ·simp
   ·split
    ·exact h2 _ _
    ·split
     ·exact h2 _ _
     ·simp
 ·simp
theorem y4q {x : List Int} {code : List Sapi_Ins} {v : Int} {b : Bool} {val : Int → Option Int} {k : Int → Option Bool} (hc : code.length ≤ 24) (hV : y2C code = true) (hx : ∀ s ∈ x, 0 ≤ s ∧ s ≤ code.length) (ha : x.Pairwise (· < ·)) (hl : x.length ≤ 2)
  (hv : b = true → Cert code val ∧ ∀ s ∈ x, ∃ w, val s = some w) : ∀ (n : Nat) (best i : Int), 0 ≤ i → i ≤ x.length → x.length < n + i → (b = true → best = (x.take i.toNat).foldl (fun b s => max b ((val s).getD 0)) 0) →
  ∃ best', yS x code (v, b) k n best i = k best' ∧ (b = true → best' = x.foldl (fun b s => max b ((val s).getD 0)) 0)
 | 0, best, i, h0, h1, h2, _ => by omega
 | n + 1, best, i, h0, h1, h2, hb => by
  rw [yS]
  by_cases h : i < x.length
  ·obtain ⟨w, c, e, _, _, _, h3⟩ := y4P hc (nth x i)
   have hm := y4Q h0 h
   have hr := hx _ hm
   have hbc : b = true → c = true := fun hb' => by
    obtain ⟨k1, k2⟩ := hv hb'
    obtain ⟨u, hu⟩ := k2 _ hm
    exact (h3 hV val u k1 hr.1 hr.2 hu).2
   rw [if_pos (decide_eq_true h), yQ ⟨h0, h⟩, e, Option.bind_some]
   dsimp only
   have g0 : (b && !c) = false := by
    cases b
    ·rfl
    ·rw [hbc rfl]; rfl
   have g1 : decide (nth x i < 0) = false := by simp; omega
   have g2 : decide (nth x i > ((code.length : Nat) : Int)) = false := by simp; omega
   rw [g0, g1, g2]
   simp only [Bool.or_self, Bool.false_or]
   have e1 : i64 (i + 1) = i + 1 := y1O (by omega)
   have hb2 : b = true → max best w = (x.take (i + 1).toNat).foldl (fun b s => max b ((val s).getD 0)) 0 := fun hb' => by
    obtain ⟨k1, k2⟩ := hv hb'
    obtain ⟨u, hu⟩ := k2 _ hm
    obtain ⟨rfl, _⟩ := h3 hV val u k1 hr.1 hr.2 hu
    rw [y5t x h0 h, List.foldl_append, ← hb hb']
    simp [hu]
   by_cases hi : i > 0
   ·have e2 : i64 (i - 1) = i - 1 := y1O (by omega)
    have hlt : nth x (i - 1) < nth x i := by
     have := List.pairwise_iff_getElem.1 ha (i - 1).toNat i.toNat (by omega) (by omega) (by omega)
     rwa [y2f (l := x) (i := i - 1) (by omega) (by omega), y2f (l := x) h0 h] at this
    rw [e2, yQ (fun _ => ⟨h0, h⟩), yQ (fun _ => ⟨h0, h⟩), yQ (fun _ _ => ⟨h0, h⟩), yQ (fun _ _ => by omega), if_neg (by simp; omega), e1]
    exact y4q hc hV hx ha hl hv n _ (i + 1) (by omega) (by omega) (by omega) hb2
   ·have g3 : decide (i > 0) = false := by simp; omega
    rw [g3]
    simp only [Bool.false_and, Bool.false_eq_true, if_false, false_implies, implies_true]
    rw [yQ (by simp; omega), yQ (by simp; omega), yQ (by simp), yQ (by simp), e1]
    exact y4q hc hV hx ha hl hv n _ (i + 1) (by omega) (by omega) (by omega) hb2
  ·rw [if_neg (by simpa using h)]
   refine ⟨best, rfl, fun hb' => ?_⟩
   rw [hb hb', List.take_of_length_le (by omega)]
theorem y5H {code : List Sapi_Ins} {i : Int} : y1N code i = some true := by
 unfold y1N
 have hN0 := y3M
 generalize y1k = N at hN0 ⊢
 rw [awake_eq, Option.bind_some, if_neg (by simp)]
 by_cases hc : code.length ≤ 24
 ·rw [if_neg (by simp; omega)]
  obtain ⟨v, b, e, hvb, h1, h2, h3⟩ := y4P hc i
  rw [e, Option.bind_some]
  dsimp only
  by_cases hi : i < 0 ∨ code.length ≤ i
  ·rw [if_pos (by simp; omega), y55 (by omega), Option.bind_some]
   by_cases hV : y2C code = true
   ·by_cases he : i = code.length
    ·obtain ⟨rfl, rfl⟩ := h3 hV (fun j => if j = code.length then some 0 else none) 0 ⟨by simp, fun j w hj hn => by rw [if_neg hn] at hj; cases hj⟩ (by omega) (by omega) (by simp [he])
     simp [hV, he]
    ·have : b = false := by
      cases b with
      | false => rfl
      | true => have := (h2 rfl).2; omega
     subst this
     simp [h1 rfl, he]
   ·have : b = false := by
     cases b with
     | false => rfl
     | true => exact absurd (h2 rfl).1 hV
    subst this
    simp [h1 rfl, hV]
  ·rw [if_neg (by simp; omega), y6j (by omega), Option.bind_some, y55 (by omega), Option.bind_some]
   by_cases hV : y2C code = true
   ·rw [if_neg (by simp [hV])]
    have hin : 0 ≤ i ∧ i < code.length := by omega
    refine jp1_ex (P := fun o => o = some true) fun k hk => ?_
    obtain ⟨val, hval⟩ : ∃ val, b = true → Cert code val ∧ val i = some v := by
     cases b with
     | false => exact ⟨fun _ => none, fun h => by cases h⟩
     | true => obtain ⟨_, _, _, val, hv⟩ := h2 rfl; exact ⟨val, fun _ => hv⟩
    obtain ⟨best', eb, hb⟩ := y4q (x := y15 code i) (code := code) (v := v) (b := b) (val := val) (k := k)
     hc hV (fun s hs => (y3b hs).2.2) (succ_asc _ _) (y4p _ _) (fun hb => ⟨(hval hb).1, ((hval hb).1.node i v (hval hb).2 (by omega)).2.2.1⟩) N 0 0 (by omega) (by omega) (by have := y4p code i; omega) (fun _ => by simp)
    rw [eb, hk]
    refine jp1_ex (P := fun o => o = some true) fun k2 hk2 => ?_
    rw [yQ hin]
    have fin : ∀ o : Int, o = own code i → (some ((!b) || decide (v = i64 (o + best'))) : Option Bool) = some true := fun o ho => by
     cases b with
     | false => rfl
     | true =>
      have hv := ((hval rfl).1.node i v (hval rfl).2 (by omega)).2.2.2
      rw [← hb rfl] at hv
      have ho1 := y4O hV hin.1 hin.2
      have hb0 : 0 ≤ best' := by rw [hb rfl]; exact (y3h _ _ _).1
      rw [ho, y1O (by omega), hv]; simp
    by_cases h1' : (nth code i).fOp = 1
    ·rw [if_pos (decide_eq_true h1'), yQ hin]
     rw [hk2]
     exact fin _ (by unfold own; rw [if_pos h1'])
    ·rw [if_neg (by simpa using h1')]
     rw [hk2]
     exact fin _ (by unfold own; rw [if_neg h1'])
   ·rw [if_pos (by simp [hV])]
    have : b = false := by
     cases b with
     | false => rfl
     | true => exact absurd (h2 rfl).1 hV
    subst this
    simp [h1 rfl]
 ·rw [if_pos (by simp; omega)]
end Go.Proofs.YtjdnejbngloieaaDoor
