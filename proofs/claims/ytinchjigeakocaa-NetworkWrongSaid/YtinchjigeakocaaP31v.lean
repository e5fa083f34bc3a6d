/- A part of this claim's proof: models of functions, walks, plain laws. No conditions. -/
import Derived.Test.YtinchjigeakocaaP31c
namespace Go.Proofs.Ytinchjigeakocaa
open Go Go.RowKit Sep
set_option linter.all false
/-! ### the stable sort -/
theorem nthA {α : Type} [Inhabited α] {P S : List α} {x : α} {i : Int} (h : i = P.length) : nth (P ++ x :: S) i = x := by
 subst h; rw [y6P (by simp; omega)]; simp
structure Cmp (f : Cm → Cm → Option Int) (lt : Cm → Cm → Prop) : Prop where
 eq : ∀ x y, ∃ v, f x y = some v ∧ (v < 0 ↔ lt x y)
 asym : ∀ x y, lt x y → ¬ lt y x
 tr : ∀ x y z, ¬ lt y x → ¬ lt z y → ¬ lt z x
def Srt (lt : Cm → Cm → Prop) (l : List Cm) : Prop := l.Pairwise fun x y => ¬ lt y x
section
variable {f : Cm → Cm → Option Int} {lt : Cm → Cm → Prop}
theorem Srt.app {A B : List Cm} : Srt lt (A ++ B) ↔ Srt lt A ∧ Srt lt B ∧ ∀ x ∈ A, ∀ y ∈ B, ¬ lt y x := List.pairwise_append
/-! ### swapping and turning -/
end
end Go.Proofs.Ytinchjigeakocaa
namespace Go.Proofs.Ytinchjigeakocaa
open Go Go.RowKit Sep
set_option linter.all false
section
variable {f : Cm → Cm → Option Int} {lt : Cm → Cm → Prop}
end
end Go.Proofs.Ytinchjigeakocaa
namespace Go.Proofs.Ytinchjigeakocaa
open Go Go.RowKit Sep
set_option linter.all false
section
variable {f : Cm → Cm → Option Int} {lt : Cm → Cm → Prop}
end
end Go.Proofs.Ytinchjigeakocaa
namespace Go.Proofs.Ytinchjigeakocaa
open Go Go.RowKit Sep
set_option linter.all false
section
variable {f : Cm → Cm → Option Int} {lt : Cm → Cm → Prop}
inductive Blk (lt : Cm → Cm → Prop) (w : Nat) : List Cm → Prop
 | last {l} : Srt lt l → l.length ≤ w → Blk lt w l
 | cons {A R} : Srt lt A → A.length = w → Blk lt w R → Blk lt w (A ++ R)
theorem Blk.split {w : Nat} {l : List Cm} (h : Blk lt w l) (hl : w < l.length) : ∃ A R, l = A ++ R ∧ A.length = w ∧ Srt lt A ∧ Blk lt w R := by
 cases h with
 | last h h2 => omega
 | cons h h2 h3 => exact ⟨_, _, rfl, h2, h, h3⟩
end
/-! ### the order of arrivals -/
def clt (a b : Cm) : Prop := a.fTime < b.fTime ∨ a.fTime = b.fTime ∧ (a.fSent < b.fSent ∨ a.fSent = b.fSent ∧ a.fNode < b.fNode)
instance (a b : Cm) : Decidable (clt a b) := inferInstanceAs (Decidable (_ ∨ _))
end Go.Proofs.Ytinchjigeakocaa
