/- A part of this claim's proof: models of functions, walks, plain laws. No conditions. -/
import Derived.Test.YtinchjigeakocaaP31e
namespace Go.Proofs.Ytinchjigeakocaa
open Go Go.RowKit Sep
set_option linter.all false
section
variable {c : Cf} {net : Int} {rs : List (List Hop)} {sent : List Snt}
inductive Runs (c : Cf) (rs : List (List Hop)) (sent : List Snt) : Nat → St → St → Prop
 | done {S T : St} (h : S.ag = []) (k : EQ S T) : Runs c rs sent 0 S T
 | step {S S' T : St} {n : Nat} (e : Ev) (rest : List Ev) (hp : (e :: rest).Perm S.ag) (hmin : ∀ x ∈ S.ag, kle e x) (heq : EQ (y3m c rs sent e rest S) S') (hr : Runs c rs sent n S' T) : Runs c rs sent (n + 1) S T
theorem y8A {S T : St} (h : EQ S T) {e : Ev} {r1 r2 : List Ev} (hr : r1.Perm r2) : EQ (y3m c rs sent e r1 S) (y3m c rs sent e r2 T) := by
 unfold y3m
 rw [h.pf]
 split
 ·exact ⟨hr, h.come, h.lost.append_right _, rfl⟩
 ·refine ⟨hr.append_left _, ?_, h.lost, rfl⟩
  show (if _ then _ else _ : List Cm).Perm (if _ then _ else _)
  split
  ·exact h.come.append_right _
  ·exact h.come
theorem Runs.trans_eq : ∀ {n : Nat} {S T F : St}, Runs c rs sent n S F → EQ S T → ∃ F', Runs c rs sent n T F' ∧ EQ F F'
 | _, S, T, F, .done h k, q => ⟨T, .done (by have := q.ag; rw [h] at this; exact List.perm_nil.1 this.symm) (EQ.refl _), k.symm.trans q⟩
 | _, S, T, F, .step e rest hp hmin heq hr, q => by
  refine ⟨F, .step e rest (hp.trans q.ag) (fun x hx => hmin x (q.ag.mem_iff.2 hx)) ((y8A q (.refl rest)).symm.trans heq) hr, EQ.refl _⟩
theorem Runs.fin {n : Nat} {S F : St} (h : Runs c rs sent n S F) : F.ag = [] := by
 induction h with
 | done h k => have := k.ag; rw [h] at this; exact List.perm_nil.1 this.symm
 | step _ _ _ _ _ _ ih => exact ih
theorem y8M {a b : Ev} (h : a.fTime < b.fTime) : kle a b := by unfold kle klt; omega
end
end Go.Proofs.Ytinchjigeakocaa
