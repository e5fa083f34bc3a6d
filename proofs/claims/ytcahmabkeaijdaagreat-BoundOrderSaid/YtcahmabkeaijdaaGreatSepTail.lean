/- A part of this claim's proof: the tail of a slice; clear. No conditions. -/
import Derived.Test.YtcahmabkeaijdaaGreatSepRow
set_option linter.all false
set_option linter.unusedSectionVars false
namespace Sep
open Go Go.RowKit
variable [Rnd]
theorem y87 {α : Type} {enc : α → List Value} {sz : Nat} (hl : ∀ x, (enc x).length = sz) (hsz : 0 < sz) : ∀ (l : List α) (i : Nat), (l.flatMap enc)[i]? = (l[i / sz]?).bind (fun x => (enc x)[i % sz]?)
 | [], i => by simp
 | x :: l, i => by
  rw [List.flatMap_cons]
  by_cases h : i < sz
  ·rw [List.getElem?_append_left (by rw [hl]; exact h), Nat.div_eq_of_lt h, Nat.mod_eq_of_lt h]
   simp
  ·rw [List.getElem?_append_right (by rw [hl]; omega), hl, y87 hl hsz l]
   have h1 : i / sz = (i - sz) / sz + 1 := by rw [Nat.div_eq_sub_div hsz (by omega)]
   have h2 : i % sz = (i - sz) % sz := by rw [Nat.mod_eq_sub_mod (by omega)]
   rw [h1, h2]
   simp
theorem y97 {α : Type} {enc : α → List Value} {sz : Nat} {z0 : α} {zc : Array Value} (hl : ∀ x, (enc x).length = sz) (hsz : 0 < sz) (hz : zc = (enc z0).toArray) (k : Nat) :
  (Builtin.zeroCells zc k).toList = (List.replicate k z0).flatMap enc := by
 subst hz
 apply List.ext_getElem?
 intro i
 rw [y87 hl hsz]
 simp only [Builtin.zeroCells, Array.getElem?_toList, Array.getElem?_map, List.size_toArray, hl, List.getElem?_replicate]
 have hm : i % sz < sz := Nat.mod_lt _ hsz
 by_cases h : i < k * sz
 ·have h1 : i / sz < k := (Nat.div_lt_iff_lt_mul hsz).2 h
  have h2 : (Array.range (k * sz))[i]? = some i := by simp [h]
  rw [h2, if_pos h1]
  have h3 : i % sz < (enc z0).length := by rw [hl]; exact hm
  simp [h3]
 ·have h1 : ¬ i / sz < k := fun hc => h ((Nat.div_lt_iff_lt_mul hsz).1 hc)
  have h2 : (Array.range (k * sz))[i]? = none := by simp; omega
  rw [h2, if_neg h1]; rfl
theorem ydp {α : Type} {enc : α → List Value} {sz : Nat} {z0 : α} {zc : Array Value} {l : List α} {i k : Nat} (hl : ∀ x, (enc x).length = sz) (hsz : 0 < sz) (hz : zc = (enc z0).toArray) (hi : i ≤ l.length) :
  (l.flatMap enc).take (i * sz) ++ (Builtin.zeroCells zc k).toList = (l.take i ++ List.replicate k z0).flatMap enc := by
 rw [y8Q hl l i hi, y97 hl hsz hz, List.flatMap_append]
theorem yd5 {α : Type} {enc : α → List Value} {sz : Nat} {z0 : α} {zc : Array Value} {k : Nat} (hl : ∀ x, (enc x).length = sz) (hsz : 0 < sz) (hz : zc = (enc z0).toArray) (ho : ∀ x, ∀ u ∈ enc x, u.oneCell' = true) :
  ∀ u ∈ (Builtin.zeroCells zc k).toList, u.oneCell' = true := by
 rw [y97 hl hsz hz]; exact y4C ho _
section
variable {P : Program} {n : Nat} {F : List Nat} {w₀ : World} {env : List (Nat × Value)} {L Lc Lr R : List Asrt} {ops : Array Oper} {Q : Exit → Act → World → Prop} {rest l : List Oper}
 {dd : Nat} {d : Option Tmp} {ty : TypeId} {pos : String} {after : Array Edge} {g : Option (Nat × Bool)} {x y : Operand} {v u : Value} {t e T : TypeId} {sz by_ : Nat}
end
end Sep
