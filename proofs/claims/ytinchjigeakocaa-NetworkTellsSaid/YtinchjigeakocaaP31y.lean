/- A part of this claim's proof: models of functions, walks, plain laws. No conditions. -/
import Derived.Test.YtinchjigeakocaaP31x
namespace Go.Proofs.Ytinchjigeakocaa
open Go Go.RowKit Sep
set_option linter.all false
/-! ### the reference's lists -/
theorem y6j {l : List Cm} {x : Cm} {k : Int → Option (List Cm)} (hl : l.length ≤ 100000) : ∀ (n : Nat) (a : Nat), a ≤ l.length → a < n → (∀ y ∈ l.drop a, clt x y) →
  ∃ b : Nat, b ≤ l.length ∧ (∀ y ∈ l.drop b, clt x y) ∧ (b = 0 ∨ ¬ clt x (nth l ((b : Int) - 1))) ∧ y2w l x k n (a : Int) = k (b : Int)
 | 0, a, h0, h1, h2 => by omega
 | n + 1, a, h0, h1, h2 => by
  rw [y2w]
  have hi : i64 ((a : Int) - 1) = (a : Int) - 1 := yo (by omega)
  rw [hi, yf (fun hc => by have := of_decide_eq_true hc; omega), yf (fun hc _ => by have := of_decide_eq_true hc; omega), yf (fun hc _ _ => by have := of_decide_eq_true hc; omega), yf (fun hc _ _ _ => by have := of_decide_eq_true hc; omega), yf (fun hc _ _ _ _ => by have := of_decide_eq_true hc; omega)]
  by_cases h : (a : Int) > 0 ∧ clt x (nth l ((a : Int) - 1))
  ·obtain ⟨ha, hc⟩ := h
   have hc' := hc
   unfold clt at hc'
   rw [if_pos (by simp only [Bool.or_eq_true, Bool.and_eq_true, decide_eq_true_eq]; omega)]
   obtain ⟨a', rfl⟩ : ∃ a', a = a' + 1 := ⟨a - 1, by omega⟩
   rw [show ((a' + 1 : Nat) : Int) - 1 = (a' : Int) by omega] at *
   refine y6j hl n a' (by omega) (by omega) fun y hy => ?_
   rw [show a' = ((a' : Int)).toNat by simp, y39 (l := l) (v := (a' : Int)) (by omega) (by omega)] at hy
   rcases List.mem_cons.1 hy with rfl | hy
   ·exact hc
   ·exact h2 y (by simpa using hy)
  ·rw [if_neg (by
    simp only [Bool.or_eq_true, Bool.and_eq_true, decide_eq_true_eq]
    intro hc; apply h; unfold clt; omega)]
   refine ⟨a, h0, h2, ?_, rfl⟩
   by_cases q : a = 0
   ·exact .inl q
   ·exact .inr fun hc => h ⟨by omega, hc⟩
theorem y8H {l : List Cm} {x : Cm} (hl : l.length ≤ 90000) (hs : Srt clt l) : ∃ l', y3E l x = some l' ∧ l'.Perm (l ++ [x]) ∧ Srt clt l' := by
 unfold y3E
 refine y1h (P := fun o => ∃ l', o = some l' ∧ l'.Perm (l ++ [x]) ∧ Srt clt l') fun k hk => ?_
 obtain ⟨b, b1, b2, b3, b4⟩ := y6j (x := x) (k := k) (by omega) yw l.length (Nat.le_refl _) (by rw [y1k]; omega) (by simp)
 have e1 : l = l.take b ++ l.drop b := (List.take_append_drop _ _).symm
 have l1 : (l.take b).length = b := by rw [List.length_take]; omega
 have l2 : (l.drop b).length = l.length - b := List.length_drop
 rw [b4, hk, yf (by omega), yf (by simp; omega), yf (by simp; omega), yf (by omega), yf (by simp; omega)]
 refine ⟨_, rfl, ?_, ?_⟩
 ·simp only [Int.toNat_natCast, List.nil_append]
  have hp : (l.take b ++ ([x] ++ l.drop b)).Perm (l.take b ++ (l.drop b ++ [x])) := List.perm_append_comm.append_left _
  rw [← List.append_assoc, ← List.append_assoc (l.take b), List.take_append_drop] at hp
  exact hp
 ·simp only [Int.toNat_natCast, List.nil_append, List.append_assoc]
  rw [e1] at hs
  have hs' := Srt.app.1 hs
  refine Srt.app.2 ⟨hs'.1, List.pairwise_cons.2 ⟨fun y hy => y90.asym _ _ (b2 y hy), hs'.2.1⟩, ?_⟩
  intro u hu w hw
  rcases List.mem_cons.1 hw with rfl | hw
  ·have hsl : Srt clt l := by rw [e1]; exact hs
   exact hsl.take_le y90 b1 b3 u hu
  ·exact hs'.2.2 u hu w hw
def y4w (z : S92) : Ex := ⟨z.fNode, z.fLink⟩
theorem ref_at {todo : List Ev} {b : Int} {K : Int → Option (List Cm × List Cm × Int)} {ex : List S92} (hl : ex.length ≤ 100000) : ∀ (n : Nat) (A B : List S92), ex = A ++ B → B.length < n → (∀ y ∈ A, y4w y ≠ yK (nth todo b).fHop) →
  ∃ A' B', ex = A' ++ B' ∧ (∀ y ∈ A', y4w y ≠ yK (nth todo b).fHop) ∧ (B' = [] ∨ ∃ z B'', B' = z :: B'' ∧ y4w z = yK (nth todo b).fHop) ∧ y2Q ex todo b K n (A.length : Int) = K (A'.length : Int)
 | 0, A, B, h0, h1, h2 => by omega
 | n + 1, A, B, h0, h1, h2 => by
  have hlen : ex.length = A.length + B.length := by rw [h0, List.length_append]
  rw [y2Q, yf (fun hc => by have := of_decide_eq_true hc; omega), yf (fun hc _ => by have := of_decide_eq_true hc; omega)]
  cases B with
  | nil =>
   rw [List.length_nil] at hlen
   rw [if_neg (by simp only [Bool.and_eq_true, decide_eq_true_eq]; omega)]
   exact ⟨A, [], h0, h2, .inl rfl, rfl⟩
  | cons z B =>
   rw [List.length_cons] at hlen h1
   have hz : nth ex (A.length : Int) = z := by rw [h0, y5w rfl]
   rw [hz]
   by_cases e : y4w z = yK (nth todo b).fHop
   ·have e1 := congrArg Snetwork_exit.fNode e
    have e2 := congrArg Snetwork_exit.fLink e
    simp only [y4w, yK] at e1 e2
    rw [if_neg (by simp [e1, e2])]
    exact ⟨A, z :: B, h0, h2, .inr ⟨z, B, rfl, e⟩, rfl⟩
   ·rw [if_pos (by
     simp only [Bool.or_eq_true, Bool.and_eq_true, decide_eq_true_eq]
     refine ⟨by omega, ?_⟩
     by_cases q : z.fNode = (nth todo b).fHop.fNode
     ·right; intro q2; exact e (by unfold y4w yK; rw [q, q2])
     ·exact .inl q), yo (x := (A.length : Int) + 1) (by omega)]
    have := ref_at (todo := todo) (b := b) (K := K) hl n (A ++ [z]) B (by simp [h0]) (by omega) (by
     intro y hy
     rcases List.mem_append.1 hy with hy | hy
     ·exact h2 y hy
     ·rw [List.mem_singleton.1 hy]; exact e)
    rw [show (((A ++ [z]).length : Nat) : Int) = (A.length : Int) + 1 by simp] at this
    exact this
section
variable {c : Cf} {net : Int} {rs : List (List Hop)} {sent : List Snt}
def RPok (N : Nat) (q : S90) (p : Pt) : Prop := RP q p ∧ (∀ x ∈ q.fSize, 1 ≤ x ∧ x ≤ 72) ∧ q.fEnd.length ≤ N
def ExR (c : Cf) (N : Nat) (ex : List S92) (pf : Ex → Pt) : Prop := ∀ k, match ex.find? fun z => decide (y4w z = k) with
 | none => pf k = y1l c k
 | some z => RPok N z.fPort (pf k)
theorem y6k {A : List S92} {k : Ex} (h : ∀ y ∈ A, y4w y ≠ k) : A.find? (fun z => decide (y4w z = k)) = none := by
 rw [List.find?_eq_none]; intro x hx; simpa using h x hx
theorem RPok.mono {N M : Nat} {q : S90} {p : Pt} (h : RPok N q p) (hm : N ≤ M) : RPok M q p := ⟨h.1, h.2.1, Nat.le_trans h.2.2 hm⟩
theorem ExR.at_ {N : Nat} {A B : List S92} {z : S92} {pf : Ex → Pt} {k : Ex} (h : ExR c N (A ++ z :: B) pf) (hA : ∀ y ∈ A, y4w y ≠ k) (hz : y4w z = k) : RPok N z.fPort (pf k) := by
 have := h k
 rw [List.find?_append, y6k hA, Option.none_or, List.find?_cons_of_pos (by simp [hz])] at this
 exact this
theorem ExR.none {N : Nat} {A : List S92} {pf : Ex → Pt} {k : Ex} (h : ExR c N A pf) (hA : ∀ y ∈ A, y4w y ≠ k) : pf k = y1l c k := by
 have := h k
 rw [y6k hA] at this
 exact this
theorem ExR.upd_ {N : Nat} {A B : List S92} {z z' : S92} {pf : Ex → Pt} {k : Ex} {p : Pt} (h : ExR c N (A ++ z :: B) pf) (hA : ∀ y ∈ A, y4w y ≠ k) (hz : y4w z = k) (hz' : y4w z' = k) (hp : RPok (N + 1) z'.fPort p) : ExR c (N + 1) (A ++ z' :: B) (upd pf k p) := by
 intro q
 unfold upd
 by_cases e : q = k
 ·subst e
  rw [List.find?_append, y6k hA, Option.none_or, List.find?_cons_of_pos (by simp [hz']), if_pos rfl]
  exact hp
 ·rw [if_neg e]
  have := h q
  rw [List.find?_append, List.find?_cons_of_neg (by simp [hz]; exact fun hc => e hc.symm), ← List.find?_append] at this
  rw [List.find?_append, List.find?_cons_of_neg (by simp [hz']; exact fun hc => e hc.symm), ← List.find?_append]
  revert this
  cases (A ++ B).find? fun z => decide (y4w z = q) with
  | none => exact fun a => a
  | some z => exact fun a => a.mono (by omega)
theorem ExR.new_ {N : Nat} {A : List S92} {z : S92} {pf : Ex → Pt} {k : Ex} (h : ExR c N A pf) (hA : ∀ y ∈ A, y4w y ≠ k) (hz : y4w z = k) (hp : RPok N z.fPort (y1l c k)) : ExR c N (A ++ [z]) pf := by
 intro q
 by_cases e : q = k
 ·subst e
  rw [List.find?_append, y6k hA, Option.none_or, List.find?_cons_of_pos (by simp [hz]), ExR.none h hA]
  exact hp
 ·have := h q
  rw [List.find?_append, List.find?_cons_of_neg (by simp [hz]; exact fun hc => e hc.symm)]
  simpa using this
theorem eta90 (x : S90) : (⟨x.fSlow, x.fDelay, x.fStore, x.fNow, x.fAt, x.fSize, x.fEnd⟩ : S90) = x := rfl
end
end Go.Proofs.Ytinchjigeakocaa
