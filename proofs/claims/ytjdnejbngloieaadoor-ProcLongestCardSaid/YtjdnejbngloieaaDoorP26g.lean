/- A part of this claim's proof: models of functions, walks, plain laws. No conditions. -/
import Derived.Test.YtjdnejbngloieaaDoorP26w
import Derived.Test.YtjdnejbngloieaaDoorP26f
namespace Go.Proofs.YtjdnejbngloieaaDoor
open Go Go.RowKit Sep
set_option linter.all false
theorem setr_c {r : S34} {i v : Int} (h : 0 ≤ i ∧ i < 4) : y3S r i v = ⟨v, r.a1, r.a2, r.a3⟩ ∨ y3S r i v = ⟨r.a0, v, r.a2, r.a3⟩ ∨ y3S r i v = ⟨r.a0, r.a1, v, r.a3⟩ ∨ y3S r i v = ⟨r.a0, r.a1, r.a2, v⟩ := by
 have : i = 0 ∨ i = 1 ∨ i = 2 ∨ i = 3 := by omega
 rcases this with rfl | rfl | rfl | rfl
 ·exact .inl rfl
 ·exact .inr (.inl rfl)
 ·exact .inr (.inr (.inl rfl))
 ·exact .inr (.inr (.inr rfl))
theorem y6c (x : Int) : 0 ≤ u8 x ∧ u8 x ≤ 255 := by
 simp only [u8, IntKind.wrap, IntKind.signed, IntKind.bits]
 simp
 omega
theorem y7M (a n : Int) : (cnt a n).length = n.toNat := by simp [cnt]
theorem ops25 {x : Sapi_Ins} (ho : 1 ≤ x.fOp ∧ x.fOp ≤ 25) : x.fOp = 1 ∨ x.fOp = 2 ∨ x.fOp = 3 ∨ x.fOp = 4 ∨ x.fOp = 5 ∨ x.fOp = 6 ∨ x.fOp = 7 ∨ x.fOp = 8 ∨ x.fOp = 9 ∨ x.fOp = 10 ∨ x.fOp = 11 ∨ x.fOp = 12 ∨ x.fOp = 13 ∨ x.fOp = 14 ∨ x.fOp = 15 ∨ x.fOp = 16 ∨ x.fOp = 17 ∨ x.fOp = 18 ∨ x.fOp = 19 ∨ x.fOp = 20 ∨ x.fOp = 21 ∨ x.fOp = 22 ∨ x.fOp = 23 ∨ x.fOp = 24 ∨ x.fOp = 25 := by omega
structure Fm (s : Sproc_State) (mem : List Int) (r : Sproc_State × Sproc_Act) : Prop where
 regs : r.1.fRegs = s.fRegs ∨ ∃ i v, (0 ≤ i ∧ i < 4) ∧ (0 ≤ v ∧ v ≤ 255) ∧ r.1.fRegs = y3S s.fRegs i v ∧ r.2.fKind = 0
 kind : 0 ≤ r.2.fKind ∧ r.2.fKind ≤ 16
 fault : r.2.fKind = 15 → 2 ≤ r.2.fA ∧ r.2.fA ≤ 5
 store : r.2.fKind = 1 → (0 ≤ r.2.fA ∧ r.2.fA < mem.length) ∧ 0 ≤ r.2.fB ∧ r.2.fB ≤ 255
 send : r.2.fKind = 2 → 1 ≤ r.2.fData.length ∧ r.2.fData.length ≤ 64
 len : r.2.fData.length ≤ 64
theorem stepS_fm {x : Sapi_Ins} {size : Int} {s : Sproc_State} {mem : List Int} (hv : y1h x size = true) (hr : RB s.fRegs) (hm : mem.length ≤ 5000) (hb : ∀ y ∈ mem, 0 ≤ y ∧ y ≤ 255) : Fm s mem (yD x s mem) := by
 have hR := rg_bd hr
 rcases ops25 (vop hv) with e | e | e | e | e | e | e | e | e | e | e | e | e | e | e | e | e | e | e | e | e | e | e | e | e
 ·unfold yD
  simp only [e, if_true]
  generalize (if s.fLeft = 0 then x.fA else s.fLeft) = c
  split <;> exact ⟨.inl rfl, by simp, by simp, by simp, by simp, by simp⟩
 ·unfold yD
  simp only [e, if_true, Int.reduceEq, if_false]
  exact ⟨.inr ⟨_, _, vA hv (by omega), y6c _, rfl, rfl⟩, by simp, by simp, by simp, by simp, by simp⟩
 ·unfold yD
  simp only [e, if_true, Int.reduceEq, if_false]
  exact ⟨.inr ⟨_, _, vA hv (by omega), y6c _, rfl, rfl⟩, by simp, by simp, by simp, by simp, by simp⟩
 ·unfold yD
  simp only [e, if_true, Int.reduceEq, if_false]
  exact ⟨.inr ⟨_, _, vA hv (by omega), y6c _, rfl, rfl⟩, by simp, by simp, by simp, by simp, by simp⟩
 ·have hM := vM hv (by omega)
  have hC := hR x.fC
  unfold yD
  simp only [e, if_true, Int.reduceEq, if_false]
  rw [y1f (x := rg s.fRegs x.fC) (by omega), y1f (by omega)]
  split
  ·exact ⟨.inl rfl, by simp, by simp, by simp, by simp, by simp⟩
  ·exact ⟨.inr ⟨_, _, vA hv (by omega), hb _ (y50 (by omega) (by omega)), rfl, rfl⟩, by simp, by simp, by simp, by simp, by simp⟩
 ·have hM := vM hv (by omega)
  have hC := hR x.fC
  have hA := hR x.fA
  unfold yD
  simp only [e, if_true, Int.reduceEq, if_false]
  rw [y1f (x := rg s.fRegs x.fC) (by omega), y1f (by omega), y1f (x := rg s.fRegs x.fA) (by omega)]
  split
  ·exact ⟨.inl rfl, by simp, by simp, by simp, by simp, by simp⟩
  ·exact ⟨.inl rfl, by simp, by simp, fun _ => ⟨⟨by dsimp only; omega, by dsimp only; omega⟩, hA⟩, by simp, by simp⟩
 ·have hN := vN hv (by omega)
  unfold yD
  simp only [e, if_true, Int.reduceEq, if_false]
  exact ⟨.inl rfl, by simp, by simp, by simp, fun _ => by simp only [y7M]; omega, by simp only [y7M]; omega⟩
 all_goals
  unfold yD
  simp only [e, if_true, Int.reduceEq, if_false, Int.reduceLE]
  try split
  all_goals first
   | exact ⟨.inl rfl, by simp, by simp, by simp, by simp, by simp⟩
   | exact ⟨.inr ⟨_, _, vA hv (by omega), y6c _, rfl, rfl⟩, by simp, by simp, by simp, by simp, by simp⟩
theorem y6d {r : S34} {i v : Int} (h : RB r) (hi : 0 ≤ i ∧ i < 4) (hv : 0 ≤ v ∧ v ≤ 255) : RB (y3S r i v) := by
 obtain ⟨h0, h1, h2, h3⟩ := h
 rcases setr_c (r := r) (v := v) hi with e | e | e | e <;> rw [e]
 ·exact ⟨hv, h1, h2, h3⟩
 ·exact ⟨h0, hv, h2, h3⟩
 ·exact ⟨h0, h1, hv, h3⟩
 ·exact ⟨h0, h1, h2, hv⟩
def st (code : List Sapi_Ins) (s : Sproc_State) (mem : List Int) : Sproc_State × Sproc_Act := if y2a code s.fPc then yD (nth code s.fPc) s mem else (s, ⟨15, 5, 0, []⟩)
theorem st_fm {code : List Sapi_Ins} {s : Sproc_State} {mem : List Int} (hr : RB s.fRegs) (hm : mem.length ≤ 5000) (hb : ∀ y ∈ mem, 0 ≤ y ∧ y ≤ 255) : Fm s mem (st code s mem) := by
 unfold st
 by_cases hk : y2a code s.fPc = true
 ·rw [if_pos hk]
  have h := hk
  unfold y2a at h
  simp only [Bool.and_eq_true] at h
  exact stepS_fm h.2 hr hm hb
 ·rw [if_neg hk]
  exact ⟨.inl rfl, by simp, by simp, by simp, by simp, by simp⟩
theorem Fm.rb {s : Sproc_State} {mem : List Int} {r : Sproc_State × Sproc_Act} (h : Fm s mem r) (hr : RB s.fRegs) : RB r.1.fRegs := by
 rcases h.regs with e | ⟨i, v, hi, hv, e, _⟩
 ·rw [e]; exact hr
 ·rw [e]; exact y6d hr hi hv
theorem y8i {l : List Int} (h : ∀ y ∈ l, 0 ≤ y ∧ y ≤ 255) (i : Nat) (x : Int) : ∀ y ∈ l.set i (u8 x), 0 ≤ y ∧ y ≤ 255 := fun y hy => by
 rcases List.mem_or_eq_of_mem_set hy with hy | rfl
 ·exact h y hy
 ·exact y6c _
end Go.Proofs.YtjdnejbngloieaaDoor
