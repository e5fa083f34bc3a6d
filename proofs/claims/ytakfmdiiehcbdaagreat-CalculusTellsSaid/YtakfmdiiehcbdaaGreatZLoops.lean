/- A part of this claim's proof: plain laws: the loops of generic functions, order statistics. No conditions. -/
import Derived.Test.YtakfmdiiehcbdaaGreatZPure
set_option linter.all false
namespace Sep
open Go Go.RowKit
set_option linter.unusedSectionVars false
variable [Rnd]
/-! ### plain laws of the loops that the library's generic functions make -/
theorem y1n {α : Type} [Inhabited α] {l : List α} {i : Int} (h0 : 0 ≤ i) (h : i < l.length) : l.drop i.toNat = nth l i :: l.drop (i + 1).toNat := by
 rw [show (i + 1).toNat = i.toNat + 1 from by omega, List.drop_eq_getElem_cons (by omega), y1I h0 h]
theorem y1y {α : Type} {l : List α} {i : Int} (h : ¬ i < l.length) : l.drop i.toNat = [] := List.drop_eq_nil_of_le (by omega)
theorem y1j {α : Type} [Inhabited α] {l : List α} {i : Int} (h0 : 0 ≤ i) (h : i < l.length) : nth l i ∈ l := by
 rw [← y1I h0 h]; exact List.getElem_mem _
theorem y4Y {α : Type} [Inhabited α] (l : List α) {i : Int} (h0 : 0 ≤ i) (h : i < l.length) : l.take (i + 1).toNat = l.take i.toNat ++ [nth l i] := by
 rw [show (i + 1).toNat = i.toNat + 1 from by omega, List.take_succ_eq_append_getElem (by omega), y1I h0 h]
theorem step64 {i : Int} {n : Nat} (h0 : 0 ≤ i) (h : i < n) (hn : (n : Int) ≤ 9223372036854775807) : i64 (i + 1) = i + 1 := yq (by omega)
theorem ybY {α : Type} [Inhabited α] {s : List α} {f : α → Option Bool} {p : α → Bool} {k : Option Int} {L : Nat → Int → Option Int}
  (hL : ∀ n i, L (n + 1) i = if decide (i < ((s.length : Nat) : Int)) then chk ((0 : Int) ≤ i ∧ i < ((s.length : Nat) : Int)) ((f (nth s i)).bind fun x => if x then some i else L n (i64 (i + 1))) else k)
  (hf : ∀ x ∈ s, f x = some (p x)) (hs : (s.length : Int) ≤ 9223372036854775807) :
  ∀ (n : Nat) (i : Int), 0 ≤ i → i ≤ s.length → s.length - i < n → L n i = match (s.drop i.toNat).findIdx? p with | some j => some (i + j) | none => k := by
 intro n
 induction n with
 | zero => intro i h0 h1 h2; omega
 | succ n ih =>
  intro i h0 h1 h2
  rw [hL]
  by_cases hi : i < s.length
  ·rw [if_pos (by simpa using hi), ym ⟨h0, hi⟩, hf _ (y1j h0 hi), Option.bind_some, y1n h0 hi, List.findIdx?_cons]
   cases hp : p (nth s i)
   ·rw [if_neg (by simp), if_neg (by simp), step64 h0 hi hs, ih (i + 1) (by omega) (by omega) (by omega)]
    cases List.findIdx? p (s.drop (i + 1).toNat) with
    | none => rfl
    | some j => simp; omega
   ·simp
  ·rw [if_neg (by simpa using hi), y1y hi]; rfl
theorem y9D {α : Type} [Inhabited α] {s : List α} {f : α → Option Bool} {p : α → Bool} {L : Option Int → Nat → Int → Option Int}
  (hL : ∀ k n i, L k (n + 1) i = if decide (i < ((s.length : Nat) : Int)) then chk ((0 : Int) ≤ i ∧ i < ((s.length : Nat) : Int)) ((f (nth s i)).bind fun x => if x then some i else L k n (i64 (i + 1))) else k)
  (hf : ∀ x ∈ s, f x = some (p x)) (hs : (s.length : Int) ≤ 4611686018427387000) :
  (jp0 (some (-1)) fun k => L k yu 0) = some (match s.findIdx? p with | some j => (j : Int) | none => -1) := by
 simp only [jp0]
 rw [ybY (hL (some (-1))) hf (by omega) yu 0 (by omega) (by omega) (by rw [yU]; omega)]
 simp only [Int.toNat_zero, List.drop_zero]
 cases s.findIdx? p with
 | none => rfl
 | some j => simp
theorem y8n {α : Type} {s : List α} {p : α → Bool} {o : Option Int} (h : o = some (match s.findIdx? p with | some j => (j : Int) | none => -1)) : (o.bind fun x => some (decide (x ≥ 0))) = some (s.any p) := by
 rw [h, Option.bind_some]
 congr 1
 cases hq : s.findIdx? p with
 | none =>
  have := List.findIdx?_eq_none_iff.1 hq
  simp only [show ¬ ((-1 : Int) ≥ 0) from by omega, decide_false]
  symm
  rw [List.any_eq_false]
  intro x hx; simp [this x hx]
 | some j =>
  obtain ⟨hj, hpj, _⟩ := List.findIdx?_eq_some_iff_getElem.1 hq
  simp only [ge_iff_le, Int.natCast_nonneg, decide_true]
  symm
  rw [List.any_eq_true]
  exact ⟨s[j], List.getElem_mem _, hpj⟩
/-! ### order statistics -/
end Sep
