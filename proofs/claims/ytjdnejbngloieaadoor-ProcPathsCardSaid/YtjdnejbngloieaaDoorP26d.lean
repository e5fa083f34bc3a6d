/- A part of this claim's proof: models of functions, walks, plain laws. No conditions. -/
import Derived.Test.YtjdnejbngloieaaDoorP26c
namespace Go.Proofs.YtjdnejbngloieaaDoor
open Go Go.RowKit Sep
set_option linter.all false
/-! ### Longest: the memo -/
abbrev MM := List (Int × Int)
def lk (m : MM) (j : Int) : Option Int := if y46 m j then some (y28 m j 0) else none
theorem y40 (p : Int × Int) (m : MM) (j : Int) : lk (p :: m) j = if j = p.1 then some p.2 else lk m j := by
 unfold lk
 by_cases h : j = p.1 <;> simp [h, y46, y28]
theorem y4b (k v j : Int) : ∀ m : MM, lk (y19 m k v) j = if j = k then some v else lk m j
 | [] => by by_cases h : j = k <;> simp [h, y19, y40, lk, y46, y28]
 | p :: m => by
  unfold y19
  by_cases h : k = p.1
  ·rw [if_pos h, y40, y40]; subst h; by_cases h' : j = p.1 <;> simp [h']
  ·rw [if_neg h, y40, y40, y4b k v j m]
   by_cases h' : j = p.1
   ·rw [if_pos h', if_pos h', if_neg (by omega)]
   ·rw [if_neg h', if_neg h']
def y3i (m : MM) (s : Int) : Int := (lk m s).getD 0
theorem y68 (s : Int) : ∀ m : MM, y28 m s 0 = y3i m s
 | [] => by simp [y28, y3i, lk, y46]
 | p :: m => by
  unfold y28 y3i
  rw [y40]
  by_cases h : s = p.1
  ·rw [if_pos h, if_pos h]; rfl
  ·rw [if_neg h, if_neg h, y68 s m]; rfl
def mx (m : MM) (l : List Int) : Int := l.foldl (fun b s => max b (y3i m s)) 0
def own (code : List Sapi_Ins) (i : Int) : Int := if (nth code i).fOp = 1 then (nth code i).fA else 1
def fin (m : MM) (j v : Int) : Prop := lk m j = some v ∧ v ≠ -1
def rem (n : Nat) (m : MM) : Nat := ((List.range n).filter fun (j : Nat) => (lk m (j : Int)).isNone).length
def ext (m m' : MM) : Prop := ∀ j x, lk m j = some x → lk m' j = some x
def old (m m' : MM) : Prop := ∀ j, lk m' j = some (-1) → lk m j = some (-1)
theorem y4X (f : Int → Int) : ∀ (l : List Int) (b : Int), b ≤ l.foldl (fun b s => max b (f s)) b ∧ ∀ s ∈ l, f s ≤ l.foldl (fun b s => max b (f s)) b
 | [], b => ⟨by simp, by simp⟩
 | x :: l, b => by
  obtain ⟨h1, h2⟩ := y4X f l (max b (f x))
  simp only [List.foldl_cons]
  refine ⟨by omega, fun s hs => ?_⟩
  rcases List.mem_cons.1 hs with rfl | hs
  ·omega
  ·exact h2 s hs
theorem y6C (f : Int → Int) {B : Int} : ∀ (l : List Int) (b : Int), b ≤ B → (∀ s ∈ l, f s ≤ B) → l.foldl (fun b s => max b (f s)) b ≤ B
 | [], b, h, _ => by simpa using h
 | x :: l, b, h, hs => by
  simp only [List.foldl_cons]
  exact y6C f l _ (by have := hs x (by simp); omega) fun s h' => hs s (by simp [h'])
theorem y4Y {f g : Int → Int} : ∀ (l : List Int) (b : Int), (∀ s ∈ l, f s = g s) → l.foldl (fun b s => max b (f s)) b = l.foldl (fun b s => max b (g s)) b
 | [], b, _ => rfl
 | x :: l, b, h => by
  simp only [List.foldl_cons]
  rw [h x (by simp)]
  exact y4Y l _ fun s hs => h s (by simp [hs])
theorem mx_ext {m m' : MM} {l : List Int} (h : ext m m') (hl : ∀ s ∈ l, ∃ w, fin m s w) : mx m' l = mx m l := by
 unfold mx
 refine y4Y l 0 fun s hs => ?_
 obtain ⟨w, hw, _⟩ := hl s hs
 unfold y3i
 rw [hw, h s w hw]
theorem y4p {p q : Nat → Bool} {a : Nat} : ∀ (l : List Nat), (∀ j ∈ l, q j = true → p j = true) → a ∈ l → p a = true → q a = false → (l.filter q).length + 1 ≤ (l.filter p).length
 | [], _, h, _, _ => by cases h
 | x :: l, h, ha, h1, h2 => by
  have hle : ∀ l : List Nat, (∀ j ∈ l, q j = true → p j = true) → (l.filter q).length ≤ (l.filter p).length := by
   intro l
   induction l with
   | nil => intro _; simp
   | cons y l ih =>
    intro h
    have i1 := ih fun j hj => h j (by simp [hj])
    have i2 := h y (by simp)
    cases hq : q y
    ·cases hp : p y <;> simp [List.filter_cons, hq, hp] <;> omega
    ·simp [List.filter_cons, hq, i2 hq]; omega
  rcases List.mem_cons.1 ha with rfl | ha
  ·have := hle l fun j hj => h j (by simp [hj])
   simp [List.filter_cons, h1, h2]; omega
  ·have i1 := y4p l (fun j hj => h j (by simp [hj])) ha h1 h2
   have i2 := h x (by simp)
   cases hq : q x
   ·cases hp : p x <;> simp [List.filter_cons, hq, hp] <;> omega
   ·simp [List.filter_cons, hq, i2 hq]; omega
theorem y5M {p q : Nat → Bool} (l : List Nat) (h : ∀ j ∈ l, q j = true → p j = true) : (l.filter q).length ≤ (l.filter p).length := by
 induction l with
 | nil => simp
 | cons y l ih =>
  have i1 := ih fun j hj => h j (by simp [hj])
  have i2 := h y (by simp)
  cases hq : q y
  ·cases hp : p y <;> simp [List.filter_cons, hq, hp] <;> omega
  ·simp [List.filter_cons, hq, i2 hq]; omega
theorem rem_ext {n : Nat} {m m' : MM} (h : ext m m') : rem n m' ≤ rem n m := by
 unfold rem
 refine y5M _ fun j _ hj => ?_
 cases hm : lk m (j : Int) with
 | none => rfl
 | some x => rw [h _ _ hm] at hj; cases hj
theorem y7E {n : Nat} {m m' : MM} {i x : Int} (h : ∀ j, lk m' j = if j = i then some x else lk m j) (h0 : 0 ≤ i) (h1 : i < n) (hn : lk m i = none) : rem n m' + 1 ≤ rem n m := by
 unfold rem
 refine y4p (a := i.toNat) _ (fun j _ hj => ?_) (List.mem_range.2 (by omega)) ?_ ?_
 ·rw [h] at hj
  by_cases e : (j : Int) = i
  ·rw [if_pos e] at hj; cases hj
  ·rw [if_neg e] at hj; exact hj
 ·rw [show ((i.toNat : Nat) : Int) = i by omega, hn]; rfl
 ·rw [show ((i.toNat : Nat) : Int) = i by omega, h, if_pos rfl]; rfl
theorem rem_same {n : Nat} {m m' : MM} {i x : Int} (h : ∀ j, lk m' j = if j = i then some x else lk m j) : rem n m' ≤ rem n m := by
 unfold rem
 refine y5M _ fun j _ hj => ?_
 rw [h] at hj
 by_cases e : (j : Int) = i
 ·rw [if_pos e] at hj; cases hj
 ·rw [if_neg e] at hj; exact hj
theorem rem_le (n : Nat) (m : MM) : rem n m ≤ n := by
 unfold rem
 refine Nat.le_trans (List.length_filter_le _ _) (by simp)
structure Inv (code : List Sapi_Ins) (m : MM) (d : Nat) : Prop where
 zero : lk m code.length = some 0
 eq : ∀ j v, fin m j v → j ≠ code.length → 0 ≤ j ∧ j < code.length ∧ (∀ s ∈ yT code j, ∃ w, fin m s w) ∧ v = own code j + mx m (yT code j)
 bd : ∀ j v, fin m j v → 0 ≤ v ∧ v ≤ 2000 * ((code.length : Int) - rem code.length m - d)
theorem y5N {code : List Sapi_Ins} (hV : y2K code = true) {i : Int} (h0 : 0 ≤ i) (h1 : i < code.length) : 1 ≤ own code i ∧ own code i ≤ 2000 := by
 have h := allV_at hV h0 h1
 unfold y3k at h
 simp only [Bool.and_eq_true, decide_eq_true_eq] at h
 unfold own
 split
 ·rename_i e; exact vW h.2 e
 ·omega
theorem Inv.open {code : List Sapi_Ins} {m : MM} {d : Nat} {i : Int} (h : Inv code m d) (h0 : 0 ≤ i) (h1 : i < code.length) (hn : lk m i = none) : Inv code (y19 m i (-1)) (d + 1) := by
 have hp : ∀ j, lk (y19 m i (-1)) j = if j = i then some (-1) else lk m j := fun j => y4b _ _ _ _
 have hr := y7E hp h0 h1 hn
 have back : ∀ j v, fin (y19 m i (-1)) j v → fin m j v := fun j v ⟨a, b⟩ => by
  rw [hp] at a
  by_cases e : j = i
  ·rw [if_pos e] at a; exact absurd (Option.some.inj a).symm b
  ·rw [if_neg e] at a; exact ⟨a, b⟩
 have fwd : ∀ j v, fin m j v → fin (y19 m i (-1)) j v := fun j v ⟨a, b⟩ => by
  refine ⟨?_, b⟩
  rw [hp, if_neg (by rintro rfl; rw [hn] at a; cases a)]; exact a
 have hx : ext m (y19 m i (-1)) := fun j x hx => by rw [hp, if_neg (by rintro rfl; rw [hn] at hx; cases hx)]; exact hx
 refine ⟨by rw [hp, if_neg (by omega)]; exact h.zero, fun j v hf hj => ?_, fun j v hf => ?_⟩
 ·obtain ⟨a, b, c, e⟩ := h.eq j v (back j v hf) hj
  refine ⟨a, b, fun s hs => ?_, ?_⟩
  ·obtain ⟨w, hw⟩ := c s hs; exact ⟨w, fwd _ _ hw⟩
  ·rw [mx_ext hx c]; exact e
 ·have := h.bd j v (back j v hf); omega
theorem Inv.close {code : List Sapi_Ins} {m m' : MM} {d : Nat} {i v : Int} (hV : y2K code = true) (h : Inv code m (d + 1)) (h0 : 0 ≤ i) (h1 : i < code.length) (hn : lk m i = some (-1)) (hp : ∀ j, lk m' j = if j = i then some v else lk m j)
  (hs : ∀ s ∈ yT code i, ∃ w, fin m s w) (hv : v = own code i + mx m (yT code i)) : Inv code m' d ∧ fin m' i v ∧ 1 ≤ v := by
 have ho := y5N hV h0 h1
 have hm0 : 0 ≤ mx m (yT code i) := (y4X _ _ _).1
 have hr := rem_same (n := code.length) hp
 have fwd : ∀ j w, fin m j w → fin m' j w := fun j w ⟨a, b⟩ => by
  refine ⟨?_, b⟩
  rw [hp, if_neg (by rintro rfl; rw [hn] at a; exact b (Option.some.inj a).symm)]; exact a
 have hval : ∀ s, (∃ w, fin m s w) → y3i m' s = y3i m s := fun s ⟨w, hw⟩ => by unfold y3i; rw [(fwd s w hw).1, hw.1]
 have hmx : ∀ l : List Int, (∀ s ∈ l, ∃ w, fin m s w) → mx m' l = mx m l := fun l hl => y4Y l 0 fun s hs => hval s (hl s hs)
 have hb0 : 0 ≤ 2000 * ((code.length : Int) - rem code.length m - ((d + 1 : Nat) : Int)) := (h.bd _ 0 ⟨h.zero, by omega⟩).2
 have hvb : mx m (yT code i) ≤ 2000 * ((code.length : Int) - rem code.length m - ((d + 1 : Nat) : Int)) := y6C _ _ _ hb0 fun s hs' => by
  obtain ⟨w, hw⟩ := hs s hs'
  unfold y3i; rw [hw.1]; exact (h.bd s w hw).2
 have hfi : fin m' i v := ⟨by rw [hp, if_pos rfl], by omega⟩
 refine ⟨⟨by rw [hp, if_neg (by omega)]; exact h.zero, fun j w hf hj => ?_, fun j w hf => ?_⟩, hfi, by omega⟩
 ·by_cases e : j = i
  ·subst e
   have : w = v := Option.some.inj (hf.1.symm.trans hfi.1)
   subst this
   exact ⟨h0, h1, fun s hs' => let ⟨w, hw⟩ := hs s hs'; ⟨w, fwd _ _ hw⟩, by rw [hmx _ hs]; exact hv⟩
  ·obtain ⟨a, b, c, e'⟩ := h.eq j w ⟨by have := hf.1; rwa [hp, if_neg e] at this, hf.2⟩ hj
   exact ⟨a, b, fun s hs' => let ⟨w, hw⟩ := c s hs'; ⟨w, fwd _ _ hw⟩, by rw [hmx _ c]; exact e'⟩
 ·by_cases e : j = i
  ·subst e
   have : w = v := Option.some.inj (hf.1.symm.trans hfi.1)
   subst this
   push_cast at hvb ⊢
   omega
  ·have := h.bd j w ⟨by have := hf.1; rwa [hp, if_neg e] at this, hf.2⟩
   push_cast at this ⊢
   omega
end Go.Proofs.YtjdnejbngloieaaDoor
