/- A part of this claim's proof: models of functions, walks, plain laws. No conditions. -/
import Derived.Test.YtjdnejbngloieaaDoorP26e
namespace Go.Proofs.YtjdnejbngloieaaDoor
open Go Go.RowKit Sep
set_option linter.all false
theorem y7g : y2M = some true := by kernel_rfl
theorem y7F {a b : List Int} (hl : a.length = b.length) (ha : a.length < 1000000) : ∀ (n : Nat) (i : Int), 0 ≤ i → i ≤ a.length → a.length < n + i →
  y1n a b (some true) n i = some (decide (a.drop i.toNat = b.drop i.toNat))
 | 0, i, h0, h1, h => by omega
 | n + 1, i, h0, h1, h => by
  rw [y1n]
  by_cases hi : i < a.length
  ·rw [if_pos (decide_eq_true hi), yv ⟨h0, hi⟩, yv ⟨h0, by omega⟩, y3P h0 hi, y3P h0 (show i < b.length by omega), yU (by omega)]
   by_cases e : nth a i = nth b i
   ·rw [if_neg (by simpa using e), y7F hl ha n (i + 1) (by omega) (by omega) (by omega), e]
    simp
   ·rw [if_pos (by simpa using e), decide_eq_false (by simp [e])]
  ·rw [if_neg (by simpa using hi), List.drop_eq_nil_of_le (by omega), List.drop_eq_nil_of_le (by omega)]
   simp
theorem y7o {a b : List Int} (ha : a.length < 1000000) : y2y a b = some (decide (a = b)) := by
 unfold y2y jp0
 by_cases hl : a.length = b.length
 ·rw [if_neg (by simp [hl])]
  dsimp only
  rw [y7F hl ha yB 0 (by omega) (by omega) (by rw [y1D]; omega)]
  rfl
 ·rw [if_pos (by simp; omega), decide_eq_false (by rintro rfl; exact hl rfl)]
/-! ### what is lent -/
theorem y7G : ∀ (i : Nat), i < 12 → y2N 1 (i : Int) = some (nth yj (i : Int)) := by decide +kernel
theorem y6L {l : List Sapi_Ins} {k : List Sapi_Ins → Option (List Sapi_Ins)} (hl : l.length ≤ 1000) : ∀ (d n i : Nat), d + i = 12 → d < n → yY k n (l ++ yj.take i) (i : Int) = k (l ++ yj)
 | 0, n + 1, i, h, _ => by
  rw [yY, if_neg (by simp; omega), List.take_of_length_le (by rw [show yj.length = 12 from rfl]; omega)]
 | d + 1, n + 1, i, h, hn => by
  rw [yY, if_pos (by simp; omega), y7G i (by omega), Option.bind_some, yU (by omega)]
  have e : yj.take (i + 1) = yj.take i ++ [nth yj (i : Int)] := y5E yj (i := (i : Int)) (by omega) (by rw [show yj.length = 12 from rfl]; omega)
  rw [List.append_assoc, ← e, yv (by rw [List.length_append, List.length_take, show yj.length = 12 from rfl]; omega)]
  exact y6L hl d n (i + 1) (by omega) (by omega)
theorem LentV_eq {l : List Sapi_Ins} (hl : l.length ≤ 1000) : y4V l = some () := by
 unfold y4V y3g y3f
 rw [yU (x := (l.length : Int) + 12) (by omega), yv (by omega), yv (by simp; omega)]
 have e : (jp1 (fun (z2P : List Sapi_Ins) => chk ((0 : Int) ≤ ((l.length : Nat) : Int) ∧ ((l.length : Nat) : Int) ≤ ((z2P.length : Nat) : Int)) (some z2P)) fun z3s => yY z3s yB ((List.replicate (0 : Int).toNat ((⟨0, 0, 0, 0⟩ : Sapi_Ins) : Sapi_Ins)) ++ l) 0) = some (l ++ yj) := by
  refine y3X fun k hk => ?_
  have := y6L (l := l) (k := k) hl 12 yB 0 rfl (by rw [y1D]; omega)
  simp only [List.take_zero, List.append_nil] at this
  refine Eq.trans this ?_
  rw [hk, yv (by rw [List.length_append]; omega)]
 rw [e, Option.bind_some, Option.bind_some, yv rfl]
theorem y5P {l : List Sapi_Ins} (hl : l.length ≤ 1000) : ∀ (n : Nat) (i : Int), 0 ≤ i → i ≤ l.length + 12 → l.length + 12 < n + i → y1o l l (some true) n i = some true
 | 0, i, h0, h1, h2 => by omega
 | n + 1, i, h0, h1, h2 => by
  have e0 : (l ++ yj).take (i64 ((l.length : Int) + 12)).toNat = l ++ yj := by
   rw [yU (by omega)]
   exact List.take_of_length_le (by rw [List.length_append, show yj.length = 12 from rfl]; omega)
  have e1 : (l ++ yj).length = l.length + 12 := by rw [List.length_append, show yj.length = 12 from rfl]
  rw [y1o]
  simp only [e0]
  by_cases hi : i < l.length + 12
  ·rw [if_pos (by rw [e1]; simp; omega)]
   by_cases hl' : i < l.length
   ·have en : nth (l ++ yj) i = nth l i := by
     rw [← y23 (l := l ++ yj) h0 (by omega), ← y23 (l := l) h0 hl', List.getElem_append_left]
    rw [yv (fun _ => by omega), yv (fun _ => by omega), en, if_neg (by simp), if_neg (by simp; omega), Option.bind_some, Option.bind_some, if_neg (by simp), yU (by omega)]
    exact y5P hl n (i + 1) (by omega) (by omega) (by omega)
   ·have en : nth (l ++ yj) i = nth yj (((i - l.length).toNat : Nat) : Int) := by
     rw [← y23 (l := l ++ yj) h0 (by omega), ← y23 (l := yj) (by omega) (by rw [show yj.length = 12 from rfl]; omega), List.getElem_append_right (by omega)]
     congr 1; omega
    have em : i64 (i - l.length) = (((i - l.length).toNat : Nat) : Int) := by rw [yU (by omega)]; omega
    rw [yv (by simp; omega), yv (by simp; omega), if_neg (by simp; omega), if_pos (by simp; omega), yv (by omega), em, y7G _ (by omega), en]
    simp only [Option.bind_some]
    rw [if_neg (by simp), yU (by omega)]
    exact y5P hl n (i + 1) (by omega) (by omega) (by omega)
  ·rw [if_neg (by rw [e1]; simp; omega)]
theorem y7p {l : List Sapi_Ins} (hl : l.length ≤ 1000) : y2z l l = some true := by
 unfold y2z y3h jp0
 rw [if_neg (by simp), yv (by rw [yU (by omega), List.length_append, show yj.length = 12 from rfl]; omega)]
 dsimp only
 rw [y5P hl yB 0 (by omega) (by omega) (by rw [y1D]; omega)]
 rfl
end Go.Proofs.YtjdnejbngloieaaDoor
