/- A part of this claim's proof: plain laws: the loops of generic functions, order statistics. No conditions. -/
import Derived.Test.YtinchjigeakocaaZPure
set_option linter.all false
namespace Sep
open Go Go.RowKit
set_option linter.unusedSectionVars false
variable [Rnd]
/-! ### plain laws of the loops that the library's generic functions make -/
theorem y8v {α : Type} [Inhabited α] {l : List α} {i : Int} (h0 : 0 ≤ i) (h : i < l.length) : l.drop i.toNat = nth l i :: l.drop (i + 1).toNat := by
 rw [show (i + 1).toNat = i.toNat + 1 from by omega, List.drop_eq_getElem_cons (by omega), y4g h0 h]
theorem drop_end {α : Type} {l : List α} {i : Int} (h : ¬ i < l.length) : l.drop i.toNat = [] := List.drop_eq_nil_of_le (by omega)
theorem y48 {α : Type} [Inhabited α] {l : List α} {i : Int} (h0 : 0 ≤ i) (h : i < l.length) : nth l i ∈ l := by
 rw [← y4g h0 h]; exact List.getElem_mem _
theorem y8w {α : Type} [Inhabited α] (l : List α) {i : Int} (h0 : 0 ≤ i) (h : i < l.length) : l.take (i + 1).toNat = l.take i.toNat ++ [nth l i] := by
 rw [show (i + 1).toNat = i.toNat + 1 from by omega, List.take_succ_eq_append_getElem (by omega), y4g h0 h]
theorem step64 {i : Int} {n : Nat} (h0 : 0 ≤ i) (h : i < n) (hn : (n : Int) ≤ 9223372036854775807) : i64 (i + 1) = i + 1 := ym (by omega)
theorem y6t {α : Type} [Inhabited α] {s : List α} {f : α → Option Bool} {p : α → Bool} {k : Option Int} {L : Nat → Int → Option Int}
  (hL : ∀ n i, L (n + 1) i = if decide (i < ((s.length : Nat) : Int)) then chk ((0 : Int) ≤ i ∧ i < ((s.length : Nat) : Int)) ((f (nth s i)).bind fun x => if x then some i else L n (i64 (i + 1))) else k)
  (hf : ∀ x ∈ s, f x = some (p x)) (hs : (s.length : Int) ≤ 9223372036854775807) :
  ∀ (n : Nat) (i : Int), 0 ≤ i → i ≤ s.length → s.length - i < n → L n i = match (s.drop i.toNat).findIdx? p with | some j => some (i + j) | none => k := by
 intro n
 induction n with
 | zero => intro i h0 h1 h2; omega
 | succ n ih =>
  intro i h0 h1 h2
  rw [hL]
  by_cases hi : i < s.length
  ·rw [if_pos (by simpa using hi), yn ⟨h0, hi⟩, hf _ (y48 h0 hi), Option.bind_some, y8v h0 hi, List.findIdx?_cons]
   cases hp : p (nth s i)
   ·rw [if_neg (by simp), if_neg (by simp), step64 h0 hi hs, ih (i + 1) (by omega) (by omega) (by omega)]
    cases List.findIdx? p (s.drop (i + 1).toNat) with
    | none => rfl
    | some j => simp; omega
   ·simp
  ·rw [if_neg (by simpa using hi), drop_end hi]; rfl
/-! ### order statistics -/
end Sep
