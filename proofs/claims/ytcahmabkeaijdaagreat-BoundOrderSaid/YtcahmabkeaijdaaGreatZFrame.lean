/- A part of this claim's proof: the pool of a call from outside. No conditions. -/
import Derived.Test.YtcahmabkeaijdaaGreatZRules
import Derived.Test.YtcahmabkeaijdaaGreatSepFrame
set_option linter.all false
namespace Sep
open Go Go.RowKit
set_option linter.unusedSectionVars false
variable [Rnd]
def ZW (W : World) : Zp := y88 W (List.range W.heap.size)
theorem ZW_pz (W : World) : PZ [] W (ZW W) := ⟨ybG _ _, by simp⟩
theorem ZW_cell {W w : World} {A : Addr} {u : Value} (h : zok (ZW W) w) (hc : W.cell? A = some u) : w.cell? A = some u := by
 have hlt := block_lt_of_cell hc
 rw [← hc]
 exact World.cell?_of_block (y9x h (List.mem_range.2 hlt) hlt)
theorem yc1 {α : Type} {W : World} {ao : Option Addr} {m cap sz : Nat} {Pr : List Value → α → Prop} {l : List α} (h : SlP [] W (.slice ao m cap) sz Pr l) : m = l.length ∧ ZS (ZW W) sz Pr ao cap l := by
 refine ⟨h.len, ?_⟩
 obtain ⟨rows, ⟨⟨ao', cap', hv, h1, h2, h3⟩, hlen⟩, hl, hP⟩ := h
 injection hv with e1 e2 e3
 subst e1 e3
 refine ⟨by omega, h2, rows.flatten, ⟨rows, rfl, hlen, hl, hP⟩, fun hne => ?_⟩
 obtain ⟨A, hA, hc⟩ := h3 (by rintro rfl; exact hne (List.eq_nil_of_length_eq_zero (by simpa using hl.symm)))
 exact ⟨A, hA, fun w hw j u hu => ZW_cell hw (hc.2 j u hu)⟩
theorem ZS.all {α : Type} {Z : Zp} {sz : Nat} {Pr : List Value → α → Prop} {ao : Option Addr} {cap : Nat} {l : List α} {q : α → Prop} (h : ZS Z sz Pr ao cap l) (hq : ∀ r x, Pr r x → q x) : ∀ x ∈ l, q x := by
 obtain ⟨_, _, cs, ⟨rows, _, _, hl, hP⟩, _⟩ := h
 intro x hx
 obtain ⟨i, hi, rfl⟩ := List.getElem_of_mem hx
 exact hq _ _ (hP i rows[i] l[i] (by simp) (by simp))
section
variable {H : Type} {enc : TypeId × Value → H} {P : Program} {W : World}
open Go.ChangeShapes Go.WideShapes Go.ChangeAt
set_option linter.unusedSectionVars false
variable [Rnd]
theorem yy {spare : Nat → Bool} {held : Bool} {base : Nat} {t : TypeId} {fs : Array Field} {f : Field} {fuel : Nat} {cs : List Value} {x : DataW H × List MemPlace} (i : Nat) (ht : P.underlying t = some (.struct fs)) (h : DataW.trod enc P W base spare held fuel t cs = some x) (hi' : fs.toList[i]? = some f) :
  ∃ y n, DataW.trod enc P W base spare held n f.type ((cs.drop f.offset).take (P.cellsOf f.type)) = some y := by
 obtain ⟨xs, n, _, rfl, hl, hlen, hf⟩ := DataW.trod_struct ht h
 have hi : fs[i]? = some f := by simpa using hi'
 have h1 := hf i f hi
 have h2 : i < xs.length := by rw [hlen]; exact (Array.getElem?_eq_some_iff.1 hi).1
 exact ⟨xs[i], n, by rw [h1]; exact List.getElem?_eq_getElem h2⟩
theorem agg_of {spare : Nat → Bool} {held : Bool} {base n : Nat} {t : TypeId} {fs : Array Field} {fuel : Nat} {v : Value} {x : DataW H × List MemPlace} (hok : Value.okWide P W .any base t v)
  (hf : DataW.trod enc P W 0 spare held fuel t v.cells.toList = some x) (ht : P.underlying t = some (.struct fs)) (hn : P.cellsOf t = n) :
  ∃ cs : List Value, v = .agg cs.toArray ∧ cs.length = n ∧ DataW.trod enc P W 0 spare held fuel t cs = some x := by
 obtain ⟨xs, rfl, hs⟩ := okWide_struct ht hok
 exact ⟨xs.toList, by simp, by rw [Array.length_toList, hs, hn], hf⟩
theorem y2I {α : Type} {Pr : List Value → α → Prop} {spare : Nat → Bool} {held : Bool} {t e : TypeId} {sz fuel : Nat} {cs : List Value} {x : DataW H × List MemPlace} (ht : P.underlying t = some (.slice e)) (hc : P.cellsOf e = sz) (hsz : 0 < sz)
  (hel : ∀ n cs y, DataW.trod enc P W 0 spare held n e cs = some y → cs.length = sz → ∃ a : α, Pr cs a)
  (h : DataW.trod enc P W 0 spare held fuel t cs = some x) :
  ∃ (ao : Option Addr) (cap : Nat) (l : List α), cs = [.slice ao l.length cap] ∧ ZS (ZW W) sz Pr ao cap l ∧ l.length ≤ maxLen := by
 have hv : ∃ a len cap, cs = [.slice a len cap] := by
  rcases DataW.trod_slice ht h with ⟨h0, -⟩ | ⟨a, len, cap', elems, rest, n, _, h0, -⟩
  ·exact ⟨none, 0, 0, h0⟩
  ·exact ⟨some a, len, cap', h0⟩
 obtain ⟨a, len, cap, rfl⟩ := hv
 obtain ⟨ao, m, cap', l, hv, hs, hL⟩ := ybk (v := .slice a len cap) ht hc hsz hel ⟨a, len, cap, rfl⟩ h
 injection hv with e1 e2 e3
 subst e1 e2 e3
 obtain ⟨rfl, hz⟩ := yc1 hs
 exact ⟨a, cap, l, rfl, hz, hL⟩
end
end Sep
