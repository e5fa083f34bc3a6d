/- A part of this claim's proof: the library sort over owned memory. No conditions. -/
import Derived.Test.YtjdnejbngloieaaDoorZPure
import Derived.Shelf.Sort.Plain
set_option linter.all false
namespace Sep
open Go Go.RowKit Go.Sort
set_option linter.unusedSectionVars false
variable [Rnd]
theorem y6P (l : List Int) : (l.mergeSort fun x y => decide (x ≤ y)).length = l.length := (List.mergeSort_perm l _).length_eq
theorem sort_int {P : Program} {f : FuncId} {e : TypeId} {enc : Int → List Value} (henc : ∀ x, enc x = [.int .i64 x])
  (hS : ∀ (blk off cap : Nat) (zs : List Int) (w : World), Holds (Value.int .i64) w blk off zs.toArray → blk < w.heap.size → zs.length < 4611686018427387904 →
   Calls P f #[.slice (some ⟨blk, off, none⟩) zs.length cap] w fun e w' => e = .returned (.tuple #[]) ∧ ∃ n os, w' = grow (putRow (Value.int .i64) (Sort.ahead w n) blk off (zs.mergeSort fun x y => decide (x ≤ y)).toArray) os)
  (ao : Option Addr) (cap : Nat) (l r : List Int) (w₀ : World) (h0 : 0 < l.length ∧ l.length < 4611686018427387904) (hr : r = l.mergeSort fun x y => decide (x ≤ y))
  (hown : Hp (fps [row (.slice ao l.length cap) e 1 (l.flatMap enc)]) w₀ w₀ [row (.slice ao l.length cap) e 1 (l.flatMap enc)]) :
  Calls P f #[.slice ao l.length cap] w₀ fun en w' => en = .returned (.tuple #[]) ∧ (r.length = l.length) ∧ Hp (fps [row (.slice ao l.length cap) e 1 (l.flatMap enc)]) w₀ w' [row (.slice ao r.length cap) e 1 (r.flatMap enc)] := by
 have hrl : r.length = l.length := by rw [hr, y6P]
 have hfm : ∀ l : List Int, l.flatMap enc = l.map (Value.int .i64) := by
  intro l; induction l with
  | nil => rfl
  | cons x l ih => rw [List.flatMap_cons, henc, ih]; rfl
 obtain ⟨n, hcs, hv⟩ := hown.ok (row (.slice ao l.length cap) e 1 (l.flatMap enc)) (by simp)
 rcases hv with ⟨hv, hn⟩ | ⟨b, cap', cur, hv, _, hh, hc1, hc2, hc3, hc4⟩
 ·injection hv with _ e2 _; omega
 injection hv with e1 e2 e3
 subst e1 e2 e3
 have hb := hown.lt (row (.slice (some ⟨b, 0, none⟩) l.length cap) e 1 (l.flatMap enc)) (by simp) b (by simp [row, Value.ownBlock])
 have hcur : ∀ j, j < l.length → cur[j]? = some (.int .i64 l[j]!) := by
  intro j hj
  have h1 : (cur.toList.take (l.length * 1))[j]? = (l.map (Value.int .i64))[j]? := by rw [hc4, hfm]
  rw [List.getElem?_take, if_pos (by omega), List.getElem?_map, List.getElem?_eq_getElem hj] at h1
  simpa [hj] using h1
 have hH : Holds (Value.int .i64) w₀ b 0 l.toArray := by
  intro j hj
  have hj' : j < l.length := by simpa using hj
  refine ⟨?_, ?_⟩
  ·rw [Nat.zero_add, cell_of_row w₀ b j _ e (0, 0) hh]
   rw [hcur j hj']; simp
  ·simp [World.frozen?, hh, Nat.zero_add]
 have hlen := h0.2
 refine (hS b 0 cap l w₀ hH hb hlen).mono ?_
 rintro en w' ⟨rfl, k, os, rfl⟩
 refine ⟨rfl, hrl, ?_⟩
 rw [← hr]
 have hblk : ∀ k', (grow (putRow (Value.int .i64) (Sort.ahead w₀ k) b 0 r.toArray) os).heap[k']? = if k' = b then some (.cells (putCells (Value.int .i64) 0 r.toArray cur) e (0, 0)) else if k' < w₀.heap.size then w₀.heap[k']? else os[k' - w₀.heap.size]? := by
  intro k'
  simp only [grow, putRow, mapBlock, Sort.ahead, Array.getElem?_append, Array.size_modify, Array.getElem?_modify]
  by_cases hk : k' = b
  ·subst hk
   have hh2 := (Array.getElem?_eq_some_iff.1 hh).2
   simp [hb, hh2, onCells]
  ·have : ¬ b = k' := fun h => hk h.symm
   simp [hk, this]
 refine ⟨rfl, ⟨rfl, by simp [grow, putRow, mapBlock, Sort.ahead]⟩, rfl, by simp [grow, putRow, mapBlock, Sort.ahead], ?_, ?_, ?_, ?_, by simp⟩
 ·intro k' hk' hf
  rw [hblk]
  have : k' ≠ b := by rintro rfl; exact hf (by simp [row, Value.ownBlock])
  simp [this, hk']
 ·intro x hx
  simp at hx; subst hx
  refine ⟨r.length, by simp [hfm], .inr ⟨b, cap, putCells (Value.int .i64) 0 r.toArray cur, rfl, Nat.zero_le _, by rw [hblk]; simp, by omega, hc2, by simp [putCells]; omega, ?_⟩⟩
  apply List.ext_getElem?
  intro j
  rw [List.getElem?_take, hfm, List.getElem?_map]
  by_cases hj : j < r.length
  ·rw [if_pos (by omega)]
   have hjc : j < cur.size := by omega
   simp [putCells, hjc, hj]
  ·rw [if_neg (by omega), List.getElem?_eq_none (by omega)]; rfl
 ·intro x hx b' hb'
  simp at hx; subst hx
  simp [row, Value.ownBlock] at hb'
  subst hb'
  simp [grow, putRow, mapBlock, Sort.ahead]; omega
 ·intro x hx b' hb'
  simp at hx; subst hx
  simp [row, Value.ownBlock] at hb'
  subst hb'
  exact .inl (by simp [row, Value.ownBlock])
end Sep
