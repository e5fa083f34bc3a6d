/- A part of this claim's proof: slices of slices that are written in place. No conditions. -/
import Derived.Test.YtcahmabkeaijdaaGreatZRange
set_option linter.all false
namespace Sep
open Go Go.RowKit
set_option linter.unusedSectionVars false
/-! ### slices of slices that are written in place: the inner slices are owned too -/
abbrev MG (α : Type) := List ((Option Addr × Nat) × List α)
section
variable {F : List Nat} {w₀ w : World} {L R R' R'' : List Asrt} {e : TypeId} {sz : Nat} {α : Type} {enc : α → List Value} {m : MG α} {l : List (List α)} {i : Int} {Z Zn : Zp}
theorem Hp.perm {M : List Asrt} (h : Hp F w₀ w L) (p : L.Perm M) : Hp F w₀ w M :=
 ⟨h.os, h.tape, h.output, h.size, h.block, fun x hx => h.ok x (p.mem_iff.2 hx), fun x hx => h.lt x (p.mem_iff.2 hx), fun x hx => h.ow x (p.mem_iff.2 hx),
  (List.Perm.pairwise_iff (fun {x y} hxy b hb hc => hxy b hc hb) p).1 h.sep⟩
theorem PZ.left {a b : Zp} {w : World} (h : PZ F w (a ++ b)) : PZ F w a := ⟨fun p hp => h.1 p (List.mem_append_left _ hp), fun p hp => h.2 p (List.mem_append_left _ hp)⟩
end
section
variable [Rnd]
variable {P : Program} {n : Nat} {F : List Nat} {w₀ : World} {env : List (Nat × Value)} {L R R' R'' : List Asrt} {ops : Array Oper} {Q : Exit → Act → World → Prop} {lo : List Oper} {cc : Code} {ex : Exit}
 {e oe : TypeId} {sz : Nat} {α : Type} {enc : α → List Value} {m : MG α} {l : List (List α)} {i : Int} {Z Zn : Zp} {tl : Nat → Bool} {Ls : List Asrt} {fuel : Nat} {listed : Array Bool} {QD : Act → World → Prop}
end
section
variable [Rnd]
variable {P : Program} {n : Nat} {F : List Nat} {w₀ : World} {env : List (Nat × Value)} {L : List Asrt} {d : Option Tmp} {ty : TypeId} {pos : String} {after : Array Edge} {g : Option (Nat × Bool)} {x y : Operand} {t t' e : TypeId}
end
/-! ### some cells of a block -/
inductive Ks (cs : List Value) : List (Nat × Value) → Prop
 | nil : Ks cs []
 | cons {k : Nat} {v : Value} {ks : List (Nat × Value)} (h : cs[k]? = some v) (t : Ks cs ks) : Ks cs ((k, v) :: ks)
theorem Ks.get {cs : List Value} {ks : List (Nat × Value)} (h : Ks cs ks) : ∀ p ∈ ks, cs[p.1]? = some p.2 := by
 induction h with
 | nil => intro p hp; cases hp
 | cons h _ ih =>
  intro p hp
  rcases List.mem_cons.1 hp with rfl | hp
  ·exact h
  ·exact ih p hp
def y6D (b : Nat) (T : TypeId) (ks : List (Nat × Value)) : Asrt where
 fp := [b]
 ok w := ∃ cs, (stb b T cs).ok w ∧ Ks cs ks
 loc w w' h hl hk := by
  obtain ⟨cs, h1, h2⟩ := hk
  exact ⟨cs, (stb b T cs).loc w w' (by simpa [y95] using h) (by simpa [y95] using hl) h1, h2⟩
theorem Wk.stb {b : Nat} {T : TypeId} {cs : List Value} {ks : List (Nat × Value)} {L M : List Asrt} (h : Ks cs ks) (t : Wk L M) : Wk (Sep.stb b T cs :: L) (y6D b T ks :: M) :=
 .any rfl (fun _ hk => ⟨cs, hk, h⟩) t
theorem y4g {F : List Nat} {w₀ : World} {L R : List Asrt} {b off : Nat} {T : TypeId} {ks : List (Nat × Value)} {v : Value} (hm : Pick L (y6D b T ks) R) (hv : (off, v) ∈ ks) : ∀ w, Hp F w₀ w L → w.cell? ⟨b, off, none⟩ = some v := by
 intro w h
 obtain ⟨cs, h1, h2⟩ := h.ok _ hm.mem
 rw [cell_of_row w b off _ T (0, 0) (y94.1 h1)]
 simpa using h2.get _ hv
end Sep
