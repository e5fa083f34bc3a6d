/- A part of this claim's proof: the pool of a call from outside. No conditions. -/
import Derived.Test.YtjdnejbngloieaaDoorZRules
import Derived.Test.YtjdnejbngloieaaDoorSepFrame
set_option linter.all false
namespace Sep
open Go Go.RowKit
set_option linter.unusedSectionVars false
variable [Rnd]
def ZW (W : World) : Zp := y3R W (List.range W.heap.size)
theorem ZW_pz (W : World) : PZ [] W (ZW W) := ⟨y6r _ _, by simp⟩
theorem y6t {W w : World} {A : Addr} {u : Value} (h : zok (ZW W) w) (hc : W.cell? A = some u) : w.cell? A = some u := by
 have hlt := block_lt_of_cell hc
 rw [← hc]
 exact World.cell?_of_block (y55 h (List.mem_range.2 hlt) hlt)
theorem y82 {α : Type} {W : World} {ao : Option Addr} {m cap sz : Nat} {Pr : List Value → α → Prop} {l : List α} (h : SlP [] W (.slice ao m cap) sz Pr l) : m = l.length ∧ ZS (ZW W) sz Pr ao cap l := by
 refine ⟨h.len, ?_⟩
 obtain ⟨rows, ⟨⟨ao', cap', hv, h1, h2, h3⟩, hlen⟩, hl, hP⟩ := h
 injection hv with e1 e2 e3
 subst e1 e3
 refine ⟨by omega, h2, rows.flatten, ⟨rows, rfl, hlen, hl, hP⟩, fun hne => ?_⟩
 obtain ⟨A, hA, hc⟩ := h3 (by rintro rfl; exact hne (List.eq_nil_of_length_eq_zero (by simpa using hl.symm)))
 exact ⟨A, hA, fun w hw j u hu => y6t hw (hc.2 j u hu)⟩
theorem ZS.all {α : Type} {Z : Zp} {sz : Nat} {Pr : List Value → α → Prop} {ao : Option Addr} {cap : Nat} {l : List α} {q : α → Prop} (h : ZS Z sz Pr ao cap l) (hq : ∀ r x, Pr r x → q x) : ∀ x ∈ l, q x := by
 obtain ⟨_, _, cs, ⟨rows, _, _, hl, hP⟩, _⟩ := h
 intro x hx
 obtain ⟨i, hi, rfl⟩ := List.getElem_of_mem hx
 exact hq _ _ (hP i rows[i] l[i] (by simp) (by simp))
section
variable {H : Type} {enc : TypeId × Value → H} {P : Program} {W : World}
open Go.ChangeShapes Go.WideShapes Go.ChangeAt
set_option linter.unusedSectionVars false
variable [Rnd]
theorem y3W {spare : Nat → Bool} {held : Bool} {base : Nat} {t : TypeId} {fs : Array Field} {f : Field} {fuel : Nat} {cs : List Value} {x : DataW H × List MemPlace} (i : Nat) (ht : P.underlying t = some (.struct fs)) (h : DataW.trod enc P W base spare held fuel t cs = some x) (hi' : fs.toList[i]? = some f) :
  ∃ y n, DataW.trod enc P W base spare held n f.type ((cs.drop f.offset).take (P.cellsOf f.type)) = some y := by
 obtain ⟨xs, n, _, rfl, hl, hlen, hf⟩ := DataW.trod_struct ht h
 have hi : fs[i]? = some f := by simpa using hi'
 have h1 := hf i f hi
 have h2 : i < xs.length := by rw [hlen]; exact (Array.getElem?_eq_some_iff.1 hi).1
 exact ⟨xs[i], n, by rw [h1]; exact List.getElem?_eq_getElem h2⟩
end
end Sep
