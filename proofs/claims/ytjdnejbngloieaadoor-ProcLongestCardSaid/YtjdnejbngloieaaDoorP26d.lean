/- A part of this claim's proof: models of functions, walks, plain laws. No conditions. -/
import Derived.Test.YtjdnejbngloieaaDoorP26c
namespace Go.Proofs.YtjdnejbngloieaaDoor
open Go Go.RowKit Sep
set_option linter.all false
/-! ### Longest: the memo -/
abbrev MM := List (Int × Int)
def lk (m : MM) (j : Int) : Option Int := if y4f m j then some (y2t m j 0) else none
theorem y4b (p : Int × Int) (m : MM) (j : Int) : lk (p :: m) j = if j = p.1 then some p.2 else lk m j := by
 unfold lk
 by_cases h : j = p.1 <;> simp [h, y4f, y2t]
theorem y4l (k v j : Int) : ∀ m : MM, lk (y1i m k v) j = if j = k then some v else lk m j
 | [] => by by_cases h : j = k <;> simp [h, y1i, y4b, lk, y4f, y2t]
 | p :: m => by
  unfold y1i
  by_cases h : k = p.1
  ·rw [if_pos h, y4b, y4b]; subst h; by_cases h' : j = p.1 <;> simp [h']
  ·rw [if_neg h, y4b, y4b, y4l k v j m]
   by_cases h' : j = p.1
   ·rw [if_pos h', if_pos h', if_neg (by omega)]
   ·rw [if_neg h', if_neg h']
def y3s (m : MM) (s : Int) : Int := (lk m s).getD 0
theorem y6r (s : Int) : ∀ m : MM, y2t m s 0 = y3s m s
 | [] => by simp [y2t, y3s, lk, y4f]
 | p :: m => by
  unfold y2t y3s
  rw [y4b]
  by_cases h : s = p.1
  ·rw [if_pos h, if_pos h]; rfl
  ·rw [if_neg h, if_neg h, y6r s m]; rfl
def mx (m : MM) (l : List Int) : Int := l.foldl (fun b s => max b (y3s m s)) 0
def own (code : List Sapi_Ins) (i : Int) : Int := if (nth code i).fOp = 1 then (nth code i).fA else 1
def fin (m : MM) (j v : Int) : Prop := lk m j = some v ∧ v ≠ -1
def rem (n : Nat) (m : MM) : Nat := ((List.range n).filter fun (j : Nat) => (lk m (j : Int)).isNone).length
def ext (m m' : MM) : Prop := ∀ j x, lk m j = some x → lk m' j = some x
def old (m m' : MM) : Prop := ∀ j, lk m' j = some (-1) → lk m j = some (-1)
theorem y4c (f : Int → Int) : ∀ (l : List Int) (b : Int), b ≤ l.foldl (fun b s => max b (f s)) b ∧ ∀ s ∈ l, f s ≤ l.foldl (fun b s => max b (f s)) b
 | [], b => ⟨by simp, by simp⟩
 | x :: l, b => by
  obtain ⟨h1, h2⟩ := y4c f l (max b (f x))
  simp only [List.foldl_cons]
  refine ⟨by omega, fun s hs => ?_⟩
  rcases List.mem_cons.1 hs with rfl | hs
  ·omega
  ·exact h2 s hs
theorem y6R (f : Int → Int) {B : Int} : ∀ (l : List Int) (b : Int), b ≤ B → (∀ s ∈ l, f s ≤ B) → l.foldl (fun b s => max b (f s)) b ≤ B
 | [], b, h, _ => by simpa using h
 | x :: l, b, h, hs => by
  simp only [List.foldl_cons]
  exact y6R f l _ (by have := hs x (by simp); omega) fun s h' => hs s (by simp [h'])
theorem y5l {f g : Int → Int} : ∀ (l : List Int) (b : Int), (∀ s ∈ l, f s = g s) → l.foldl (fun b s => max b (f s)) b = l.foldl (fun b s => max b (g s)) b
 | [], b, _ => rfl
 | x :: l, b, h => by
  simp only [List.foldl_cons]
  rw [h x (by simp)]
  exact y5l l _ fun s hs => h s (by simp [hs])
theorem mx_ext {m m' : MM} {l : List Int} (h : ext m m') (hl : ∀ s ∈ l, ∃ w, fin m s w) : mx m' l = mx m l := by
 unfold mx
 refine y5l l 0 fun s hs => ?_
 obtain ⟨w, hw, _⟩ := hl s hs
 unfold y3s
 rw [hw, h s w hw]
theorem y6V {p q : Nat → Bool} {a : Nat} : ∀ (l : List Nat), (∀ j ∈ l, q j = true → p j = true) → a ∈ l → p a = true → q a = false → (l.filter q).length + 1 ≤ (l.filter p).length
 | [], _, h, _, _ => by cases h
 | x :: l, h, ha, h1, h2 => by
  have hle : ∀ l : List Nat, (∀ j ∈ l, q j = true → p j = true) → (l.filter q).length ≤ (l.filter p).length := by
   intro l
   induction l with
   | nil => intro _; simp
   | cons y l ih =>
    intro h
    have i1 := ih fun j hj => h j (by simp [hj])
    have i2 := h y (by simp)
    cases hq : q y
    ·cases hp : p y <;> simp [List.filter_cons, hq, hp] <;> omega
    ·simp [List.filter_cons, hq, i2 hq]; omega
  rcases List.mem_cons.1 ha with rfl | ha
  ·have := hle l fun j hj => h j (by simp [hj])
   simp [List.filter_cons, h1, h2]; omega
  ·have i1 := y6V l (fun j hj => h j (by simp [hj])) ha h1 h2
   have i2 := h x (by simp)
   cases hq : q x
   ·cases hp : p x <;> simp [List.filter_cons, hq, hp] <;> omega
   ·simp [List.filter_cons, hq, i2 hq]; omega
theorem y6W {p q : Nat → Bool} (l : List Nat) (h : ∀ j ∈ l, q j = true → p j = true) : (l.filter q).length ≤ (l.filter p).length := by
 induction l with
 | nil => simp
 | cons y l ih =>
  have i1 := ih fun j hj => h j (by simp [hj])
  have i2 := h y (by simp)
  cases hq : q y
  ·cases hp : p y <;> simp [List.filter_cons, hq, hp] <;> omega
  ·simp [List.filter_cons, hq, i2 hq]; omega
theorem rem_ext {n : Nat} {m m' : MM} (h : ext m m') : rem n m' ≤ rem n m := by
 unfold rem
 refine y6W _ fun j _ hj => ?_
 cases hm : lk m (j : Int) with
 | none => rfl
 | some x => rw [h _ _ hm] at hj; cases hj
theorem y7L {n : Nat} {m m' : MM} {i x : Int} (h : ∀ j, lk m' j = if j = i then some x else lk m j) (h0 : 0 ≤ i) (h1 : i < n) (hn : lk m i = none) : rem n m' + 1 ≤ rem n m := by
 unfold rem
 refine y6V (a := i.toNat) _ (fun j _ hj => ?_) (List.mem_range.2 (by omega)) ?_ ?_
 ·rw [h] at hj
  by_cases e : (j : Int) = i
  ·rw [if_pos e] at hj; cases hj
  ·rw [if_neg e] at hj; exact hj
 ·rw [show ((i.toNat : Nat) : Int) = i by omega, hn]; rfl
 ·rw [show ((i.toNat : Nat) : Int) = i by omega, h, if_pos rfl]; rfl
theorem rem_same {n : Nat} {m m' : MM} {i x : Int} (h : ∀ j, lk m' j = if j = i then some x else lk m j) : rem n m' ≤ rem n m := by
 unfold rem
 refine y6W _ fun j _ hj => ?_
 rw [h] at hj
 by_cases e : (j : Int) = i
 ·rw [if_pos e] at hj; cases hj
 ·rw [if_neg e] at hj; exact hj
theorem rem_le (n : Nat) (m : MM) : rem n m ≤ n := by
 unfold rem
 refine Nat.le_trans (List.length_filter_le _ _) (by simp)
structure Inv (code : List Sapi_Ins) (m : MM) (d : Nat) : Prop where
 zero : lk m code.length = some 0
 eq : ∀ j v, fin m j v → j ≠ code.length → 0 ≤ j ∧ j < code.length ∧ (∀ s ∈ y19 code j, ∃ w, fin m s w) ∧ v = own code j + mx m (y19 code j)
 bd : ∀ j v, fin m j v → 0 ≤ v ∧ v ≤ 2000 * ((code.length : Int) - rem code.length m - d)
theorem y63 {code : List Sapi_Ins} (hV : y3H code = true) {i : Int} (h0 : 0 ≤ i) (h1 : i < code.length) : 1 ≤ own code i ∧ own code i ≤ 2000 := by
 have h := y7K hV h0 h1
 unfold y2a at h
 simp only [Bool.and_eq_true, decide_eq_true_eq] at h
 unfold own
 split
 ·rename_i e; exact vW h.2 e
 ·omega
theorem Inv.open {code : List Sapi_Ins} {m : MM} {d : Nat} {i : Int} (h : Inv code m d) (h0 : 0 ≤ i) (h1 : i < code.length) (hn : lk m i = none) : Inv code (y1i m i (-1)) (d + 1) := by
 have hp : ∀ j, lk (y1i m i (-1)) j = if j = i then some (-1) else lk m j := fun j => y4l _ _ _ _
 have hr := y7L hp h0 h1 hn
 have back : ∀ j v, fin (y1i m i (-1)) j v → fin m j v := fun j v ⟨a, b⟩ => by
  rw [hp] at a
  by_cases e : j = i
  ·rw [if_pos e] at a; exact absurd (Option.some.inj a).symm b
  ·rw [if_neg e] at a; exact ⟨a, b⟩
 have fwd : ∀ j v, fin m j v → fin (y1i m i (-1)) j v := fun j v ⟨a, b⟩ => by
  refine ⟨?_, b⟩
  rw [hp, if_neg (by rintro rfl; rw [hn] at a; cases a)]; exact a
 have hx : ext m (y1i m i (-1)) := fun j x hx => by rw [hp, if_neg (by rintro rfl; rw [hn] at hx; cases hx)]; exact hx
 refine ⟨by rw [hp, if_neg (by omega)]; exact h.zero, fun j v hf hj => ?_, fun j v hf => ?_⟩
 ·obtain ⟨a, b, c, e⟩ := h.eq j v (back j v hf) hj
  refine ⟨a, b, fun s hs => ?_, ?_⟩
  ·obtain ⟨w, hw⟩ := c s hs; exact ⟨w, fwd _ _ hw⟩
  ·rw [mx_ext hx c]; exact e
 ·have := h.bd j v (back j v hf); omega
theorem Inv.close {code : List Sapi_Ins} {m m' : MM} {d : Nat} {i v : Int} (hV : y3H code = true) (h : Inv code m (d + 1)) (h0 : 0 ≤ i) (h1 : i < code.length) (hn : lk m i = some (-1)) (hp : ∀ j, lk m' j = if j = i then some v else lk m j)
  (hs : ∀ s ∈ y19 code i, ∃ w, fin m s w) (hv : v = own code i + mx m (y19 code i)) : Inv code m' d ∧ fin m' i v ∧ 1 ≤ v := by
 have ho := y63 hV h0 h1
 have hm0 : 0 ≤ mx m (y19 code i) := (y4c _ _ _).1
 have hr := rem_same (n := code.length) hp
 have fwd : ∀ j w, fin m j w → fin m' j w := fun j w ⟨a, b⟩ => by
  refine ⟨?_, b⟩
  rw [hp, if_neg (by rintro rfl; rw [hn] at a; exact b (Option.some.inj a).symm)]; exact a
 have hval : ∀ s, (∃ w, fin m s w) → y3s m' s = y3s m s := fun s ⟨w, hw⟩ => by unfold y3s; rw [(fwd s w hw).1, hw.1]
 have hmx : ∀ l : List Int, (∀ s ∈ l, ∃ w, fin m s w) → mx m' l = mx m l := fun l hl => y5l l 0 fun s hs => hval s (hl s hs)
 have hb0 : 0 ≤ 2000 * ((code.length : Int) - rem code.length m - ((d + 1 : Nat) : Int)) := (h.bd _ 0 ⟨h.zero, by omega⟩).2
 have hvb : mx m (y19 code i) ≤ 2000 * ((code.length : Int) - rem code.length m - ((d + 1 : Nat) : Int)) := y6R _ _ _ hb0 fun s hs' => by
  obtain ⟨w, hw⟩ := hs s hs'
  unfold y3s; rw [hw.1]; exact (h.bd s w hw).2
 have hfi : fin m' i v := ⟨by rw [hp, if_pos rfl], by omega⟩
 refine ⟨⟨by rw [hp, if_neg (by omega)]; exact h.zero, fun j w hf hj => ?_, fun j w hf => ?_⟩, hfi, by omega⟩
 ·by_cases e : j = i
  ·subst e
   have : w = v := Option.some.inj (hf.1.symm.trans hfi.1)
   subst this
   exact ⟨h0, h1, fun s hs' => let ⟨w, hw⟩ := hs s hs'; ⟨w, fwd _ _ hw⟩, by rw [hmx _ hs]; exact hv⟩
  ·obtain ⟨a, b, c, e'⟩ := h.eq j w ⟨by have := hf.1; rwa [hp, if_neg e] at this, hf.2⟩ hj
   exact ⟨a, b, fun s hs' => let ⟨w, hw⟩ := c s hs'; ⟨w, fwd _ _ hw⟩, by rw [hmx _ c]; exact e'⟩
 ·by_cases e : j = i
  ·subst e
   have : w = v := Option.some.inj (hf.1.symm.trans hfi.1)
   subst this
   push_cast at hvb ⊢
   omega
  ·have := h.bd j w ⟨by have := hf.1; rwa [hp, if_neg e] at this, hf.2⟩
   push_cast at this ⊢
   omega
end Go.Proofs.YtjdnejbngloieaaDoor
