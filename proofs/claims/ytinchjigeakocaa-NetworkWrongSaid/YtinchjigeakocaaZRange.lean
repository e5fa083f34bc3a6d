/- A part of this claim's proof: loops over functions. No conditions. -/
import Derived.Test.YtinchjigeakocaaZLoops
import Derived.RangeFuncLeaves
set_option linter.all false
namespace Sep
open Go Go.RowKit
set_option linter.unusedSectionVars false
/-! ### many assertions as one -/
def allA (L : List Asrt) : Asrt where
 fp := fps L
 ok w := (∀ x ∈ L, x.ok w) ∧ L.Pairwise (fun x y : Asrt => ∀ b ∈ x.fp, b ∉ y.fp)
 loc w w' h hl hk := ⟨fun x hx => x.loc w w' (fun b hb => h b (List.mem_flatMap.2 ⟨x, hx, hb⟩)) (fun b hb => hl b (List.mem_flatMap.2 ⟨x, hx, hb⟩)) (hk.1 x hx), hk.2⟩
section
variable {F : List Nat} {w₀ w w' : World} {L M R : List Asrt}
theorem Hp.open_ (h : Hp F w₀ w (allA M :: R)) : Hp F w₀ w (M ++ R) := by
 have h0 := h.ok _ (List.mem_cons_self ..)
 have hs := List.pairwise_cons.1 h.sep
 refine ⟨h.os, h.tape, h.output, h.size, h.block, fun x hx => ?_, fun x hx b hb => ?_, fun x hx b hb => ?_, List.pairwise_append.2 ⟨h0.2, hs.2, fun x hx y hy b hb => ?_⟩⟩
 ·rcases List.mem_append.1 hx with hx | hx
  ·exact h0.1 x hx
  ·exact h.ok x (List.mem_cons_of_mem _ hx)
 ·rcases List.mem_append.1 hx with hx | hx
  ·exact h.lt _ (List.mem_cons_self ..) b (List.mem_flatMap.2 ⟨x, hx, hb⟩)
  ·exact h.lt x (List.mem_cons_of_mem _ hx) b hb
 ·rcases List.mem_append.1 hx with hx | hx
  ·exact h.ow _ (List.mem_cons_self ..) b (List.mem_flatMap.2 ⟨x, hx, hb⟩)
  ·exact h.ow x (List.mem_cons_of_mem _ hx) b hb
 ·exact hs.1 y hy b (List.mem_flatMap.2 ⟨x, hx, hb⟩)
theorem Hp.y4D (h : Hp F w₀ w (M ++ R)) : Hp F w₀ w (allA M :: R) := by
 obtain ⟨h1, h2, h3⟩ := List.pairwise_append.1 h.sep
 have hb : ∀ b ∈ (allA M).fp, ∃ x ∈ M, b ∈ x.fp := fun b hb => List.mem_flatMap.1 hb
 refine ⟨h.os, h.tape, h.output, h.size, h.block, fun x hx => ?_, fun x hx b hbx => ?_, fun x hx b hbx => ?_, List.pairwise_cons.2 ⟨fun y hy b hbx => ?_, h2⟩⟩
 ·rcases List.mem_cons.1 hx with rfl | hx
  ·exact ⟨fun y hy => h.ok y (List.mem_append_left _ hy), h1⟩
  ·exact h.ok x (List.mem_append_right _ hx)
 ·rcases List.mem_cons.1 hx with rfl | hx
  ·obtain ⟨y, hy, hby⟩ := hb b hbx; exact h.lt y (List.mem_append_left _ hy) b hby
  ·exact h.lt x (List.mem_append_right _ hx) b hbx
 ·rcases List.mem_cons.1 hx with rfl | hx
  ·obtain ⟨y, hy, hby⟩ := hb b hbx; exact h.ow y (List.mem_append_left _ hy) b hby
  ·exact h.ow x (List.mem_append_right _ hx) b hbx
 ·obtain ⟨x, hx, hby⟩ := hb b hbx; exact h3 x hx y hy b hby
theorem Hp.pickAll {R' : List Asrt} (h : Hp F w₀ w L) (hp : Pick L (allA M) R') : Hp F w₀ w (M ++ R') := by
 refine Hp.open_ (h.sub (M := []) ?_)
 exact .cons hp Sel.all
theorem Hp.selAll (h : Hp F w₀ w L) (hs : Sel L M R) : Hp F w₀ w (allA M :: R) := by
 refine Hp.y4D ?_
 have : ∀ {L M R : List Asrt}, Sel L M R → Sel L (M ++ R) [] := by
  intro L M R h
  induction h with
  | nil => exact Sel.all
  | cons h _ ih => exact .cons h ih
 exact h.sub (this hs)
end
/-! ### a loop over a function -/
abbrev Rc := LoopState → Option Code → Obj
section
variable {P : Program} {n : Nat} {F : List Nat} {w₀ : World} {env : List (Nat × Value)} {L L' : List Asrt} {l D : Nat} {R : Ending → World → Prop} {fn : FuncId} {tmps : Array Value} {ps : List Tmp} {as bo : Code} {rc : Rc}
end
section
variable {P : Program} {n : Nat} {F : List Nat} {w₀ : World} {Q : Exit → Act → World → Prop} {D p i : Nat} {env : List (Nat × Value)} {L : List Asrt} {cs : List Code} {c : Code}
end
/-! the function's end, with the loop's mark -/
section
variable {P : Program} {n : Nat} {F : List Nat} {w₀ : World} {env : List (Nat × Value)} {L L' : List Asrt} {D : Nat} {R : Ending → World → Prop}
end
/-! the iterator's side -/
section
variable [Rnd] {P : Program} {n : Nat} {F : List Nat} {w₀ : World} {env : List (Nat × Value)} {L Lr : List Asrt} {ops : Array Oper} {Q : Exit → Act → World → Prop} {rest : List Oper}
 {dd : Nat} {ty : TypeId} {pos : String} {after : Array Edge} {gu : Option (Nat × Bool)}
end
end Sep
