/- A part of this claim's proof: models of functions, walks, plain laws. No conditions. -/
import Derived.Test.YtjdnejbngloieaaDoorP26r
namespace Go.Proofs.YtjdnejbngloieaaDoor
open Go Go.RowKit Sep
set_option linter.all false
/-! ### the reference: reached -/
def on (o : List Int) (j : Int) : Prop := nth o j = 1
def bits (o : List Int) : Prop := ∀ j, nth o j = 0 ∨ nth o j = 1
instance (o : List Int) (j : Int) : Decidable (on o j) := by unfold on; infer_instance
theorem y5W {l : List Int} {i j v : Int} (h0 : 0 ≤ i) (h1 : i < l.length) (h2 : 0 ≤ j) : nth (l.set i.toNat v) j = if j = i then v else nth l j := by
 unfold nth
 simp only [List.getD_eq_getElem?_getD]
 rw [List.getElem?_set]
 by_cases e : j = i
 ·subst e; rw [if_pos rfl, if_pos rfl, if_pos (by omega)]; rfl
 ·rw [if_neg (by omega), if_neg e]
theorem nth_set' {l : List Int} {i j : Int} (h0 : 0 ≤ i) (h1 : i < l.length) : (nth (l.set i.toNat 1) j = nth l j ∨ nth (l.set i.toNat 1) j = 1) := by
 unfold nth
 simp only [List.getD_eq_getElem?_getD]
 rw [List.getElem?_set]
 by_cases e : i.toNat = j.toNat
 ·rw [if_pos e]
  by_cases h : i.toNat < l.length
  ·rw [if_pos h]; right; rfl
  ·omega
 ·rw [if_neg e]; left; rfl
def sub (a b : List Int) : Prop := b.length = a.length ∧ ∀ j, 0 ≤ j → on a j → on b j
theorem sub.refl (a : List Int) : sub a a := ⟨rfl, fun _ _ h => h⟩
theorem sub.trans {a b c : List Int} (h : sub a b) (k : sub b c) : sub a c := ⟨k.1.trans h.1, fun j h0 hj => k.2 j h0 (h.2 j h0 hj)⟩
def Clo (code : List Sapi_Ins) (from_ : Int) (o : List Int) : Prop := ∀ a : Int, 0 ≤ a → a < code.length → (a = from_ ∨ on o a) → ∀ s ∈ yT code a, on o s
section
variable {code : List Sapi_Ins}
theorem l6 {x : List Int} {k : List Int → Option (List Int)} {m : Nat} (hx : ∀ s ∈ x, 0 ≤ s ∧ s < m) (hxl : x.length ≤ 2) : ∀ (n : Nat) (o : List Int) (i : Int), 0 ≤ i → i ≤ x.length → x.length < n + i → o.length = m → bits o →
  ∃ o', y1e x k n o i = k o' ∧ sub o o' ∧ bits o' ∧ (∀ s ∈ x.drop i.toNat, on o' s) ∧ ∀ j, 0 ≤ j → on o' j → on o j ∨ j ∈ x
 | 0, o, i, h0, h1, h2, _, _ => by omega
 | n + 1, o, i, h0, h1, h2, hl, hb => by
  rw [y1e]
  by_cases h : i < x.length
  ·have hm := y4E h0 h
   have hr := hx _ hm
   have hr' : nth x i < (o.length : Int) := by rw [hl]; exact hr.2
   rw [if_pos (decide_eq_true h), yv ⟨h0, h⟩, yv ⟨hr.1, hr'⟩, yU (by omega)]
   obtain ⟨o', e, h3, h4, h5, h6⟩ := l6 (k := k) hx hxl n (o.set (nth x i).toNat 1) (i + 1) (by omega) (by omega) (by omega) (by simp [hl]) (fun j => by
    rcases nth_set' (j := j) hr.1 hr' with e | e
    ·rw [e]; exact hb j
    ·exact .inr e)
   refine ⟨o', e, ⟨by rw [h3.1]; simp, fun j hj0 hj => h3.2 j hj0 ?_⟩, h4, fun s hs => ?_, fun j hj0 hj => ?_⟩
   ·unfold on
    rw [y5W hr.1 hr' hj0]
    split
    ·rfl
    ·exact hj
   ·rw [y3P h0 h] at hs
    rcases List.mem_cons.1 hs with rfl | hs
    ·refine h3.2 _ hr.1 ?_
     unfold on
     rw [y5W hr.1 hr' hr.1, if_pos rfl]
    ·exact h5 s hs
   ·rcases h6 j hj0 hj with h7 | h7
    ·unfold on at h7
     rw [y5W hr.1 hr' hj0] at h7
     split at h7
     ·rename_i e; right; rw [e]; exact hm
     ·exact .inl h7
    ·exact .inr h7
  ·rw [if_neg (by simpa using h)]
   exact ⟨o, rfl, sub.refl o, hb, by rw [List.drop_eq_nil_of_le (by omega)]; simp, fun j _ hj => .inl hj⟩
theorem l5 {from_ : Int} {k : List Int → Option (List Int)} (hc : code.length ≤ 24) : ∀ (n : Nat) (o : List Int) (i : Int), 0 ≤ i → i ≤ code.length → code.length < n + i → o.length = code.length + 1 → bits o → (∀ j, 0 ≤ j → on o j → R1 code from_ j) →
  ∃ o', y1f code from_ k n o i = k o' ∧ sub o o' ∧ bits o' ∧ (∀ j, 0 ≤ j → on o' j → R1 code from_ j) ∧ (∀ a, i ≤ a → a < code.length → (a = from_ ∨ on o a) → ∀ s ∈ yT code a, on o' s) ∧ ∀ q : List Int, Clo code from_ q → (∀ j, 0 ≤ j → on o j → on q j) → ∀ j, 0 ≤ j → on o' j → on q j
 | 0, o, i, h0, h1, h2, _, _, _ => by omega
 | n + 1, o, i, h0, h1, h2, hl, hb, hR => by
  rw [y1f]
  by_cases h : i < code.length
  ·rw [if_pos (decide_eq_true h)]
   refine y5L (P := fun q => ∃ o', q = k o' ∧ sub o o' ∧ bits o' ∧ (∀ j, 0 ≤ j → on o' j → R1 code from_ j) ∧ (∀ a, i ≤ a → a < code.length → (a = from_ ∨ on o a) → ∀ s ∈ yT code a, on o' s) ∧ ∀ q : List Int, Clo code from_ q → (∀ j, 0 ≤ j → on o j → on q j) → ∀ j, 0 ≤ j → on o' j → on q j) fun k2 hk2 => ?_
   rw [yv (fun _ => by omega)]
   by_cases hs : i = from_ ∨ on o i
   ·have hn : ((decide (i ≠ from_)) && (decide ((nth o i) = 0))) = false := by
     rcases hs with e | e
     ·simp [e]
     ·unfold on at e; simp [e]
    rw [hn, if_neg (by simp), y69 (by omega), Option.bind_some]
    refine y5L (P := fun q => ∃ o', q = k o' ∧ sub o o' ∧ bits o' ∧ (∀ j, 0 ≤ j → on o' j → R1 code from_ j) ∧ (∀ a, i ≤ a → a < code.length → (a = from_ ∨ on o a) → ∀ s ∈ yT code a, on o' s) ∧ ∀ q : List Int, Clo code from_ q → (∀ j, 0 ≤ j → on o j → on q j) → ∀ j, 0 ≤ j → on o' j → on q j) fun k3 hk3 => ?_
    obtain ⟨o1, e1, g1, g2, g3, g4⟩ := l6 (k := k3) (x := yT code i) (m := code.length + 1) (fun s hs => by have := y1w hs; omega) (y3q _ _) yB o 0 (by omega) (by omega) (by have := y3q code i; rw [y1D]; omega) hl hb
    rw [e1, hk3, hk2, yU (by omega)]
    obtain ⟨o', e, h3, h4, h5, h6, h7⟩ := l5 (from_ := from_) (k := k) hc n o1 (i + 1) (by omega) (by omega) (by omega) (by rw [g1.1]; exact hl) g2 (fun j hj0 hj => by
     rcases g4 j hj0 hj with h | h
     ·exact hR j hj0 h
     ·rcases hs with e | e
      ·subst e; exact .one h
      ·exact .step (hR i h0 e) h)
    refine ⟨o', e, g1.trans h3, h4, h5, fun a ha1 ha2 hao s hs' => ?_, fun q hq hoq => h7 q hq fun j hj0 hj => ?_⟩
    ·by_cases ea : a = i
     ·subst ea
      exact h3.2 s (y1w hs').2.2.1 (g3 s (by simpa using hs'))
     ·exact h6 a (by omega) ha2 (hao.imp id (g1.2 a (by omega))) s hs'
    ·rcases g4 j hj0 hj with h' | h'
     ·exact hoq j hj0 h'
     ·exact hq i h0 h (hs.imp id (hoq i h0)) j h'
   ·have hn : ((decide (i ≠ from_)) && (decide ((nth o i) = 0))) = true := by
     have h1' : i ≠ from_ := fun e => hs (.inl e)
     have h2' : nth o i = 0 := (hb i).resolve_right fun e => hs (.inr e)
     simp [h1', h2']
    rw [hn, if_pos rfl, hk2, yU (by omega)]
    obtain ⟨o', e, h3, h4, h5, h6, h7⟩ := l5 (from_ := from_) (k := k) hc n o (i + 1) (by omega) (by omega) (by omega) hl hb hR
    refine ⟨o', e, h3, h4, h5, fun a ha1 ha2 hao s hs' => ?_, h7⟩
    by_cases ea : a = i
    ·subst ea; exact absurd hao hs
    ·exact h6 a (by omega) ha2 hao s hs'
  ·rw [if_neg (by simpa using h)]
   exact ⟨o, rfl, sub.refl o, hb, hR, fun a h3 h4 => by omega, fun q _ hoq => hoq⟩
def cnt1 (m : Nat) (o : List Int) : Nat := ((List.range m).filter fun (j : Nat) => decide (on o (j : Int))).length
theorem grow {m : Nat} {a b : List Int} (h : sub a b) : cnt1 m a ≤ cnt1 m b ∧ ((∃ j, 0 ≤ j ∧ j < (m : Int) ∧ on b j ∧ ¬ on a j) → cnt1 m a + 1 ≤ cnt1 m b) := by
 refine ⟨y5M _ fun j _ hj => decide_eq_true (h.2 _ (by omega) (of_decide_eq_true hj)), fun ⟨j, h0, h1, h2, h3⟩ => ?_⟩
 ·refine y4p (a := j.toNat) _ (fun j _ hj => decide_eq_true (h.2 _ (by omega) (of_decide_eq_true hj))) (List.mem_range.2 (by omega)) ?_ ?_
  ·rw [show ((j.toNat : Nat) : Int) = j by omega]; exact decide_eq_true h2
  ·rw [show ((j.toNat : Nat) : Int) = j by omega]; exact decide_eq_false h3
theorem full {m : Nat} {o : List Int} (h : m ≤ cnt1 m o) : ∀ j, 0 ≤ j → j < (m : Int) → on o j := fun j h0 h1 => by
 apply Decidable.byContradiction
 intro hn
 have := y4p (p := fun _ => true) (q := fun (j : Nat) => decide (on o (j : Int))) (a := j.toNat) (List.range m) (fun _ _ _ => rfl) (List.mem_range.2 (by omega)) rfl (by rw [show ((j.toNat : Nat) : Int) = j by omega]; exact decide_eq_false hn)
 unfold cnt1 at h
 have h5 := List.length_filter_le (fun _ : Nat => true) (List.range m)
 rw [List.length_range] at h5
 omega
theorem l4 {from_ : Int} {k : List Int → Option (List Int)} (hc : code.length ≤ 24) : ∀ (n : Nat) (o : List Int) (r : Int), 0 ≤ r → r ≤ code.length + 1 → code.length + 1 < n + r → o.length = code.length + 1 → bits o → (∀ j, 0 ≤ j → on o j → R1 code from_ j) → (Clo code from_ o ∨ r ≤ cnt1 (code.length + 1) o) →
  ∃ o', y1g code from_ k n o r = k o' ∧ o'.length = code.length + 1 ∧ bits o' ∧ (∀ j, 0 ≤ j → on o' j → R1 code from_ j) ∧ Clo code from_ o'
 | 0, o, r, h0, h1, h2, _, _, _, _ => by omega
 | n + 1, o, r, h0, h1, h2, hl, hb, hR, hq => by
  rw [y1g]
  by_cases h : r ≤ code.length
  ·rw [if_pos (decide_eq_true h)]
   refine y5L (P := fun q => ∃ o', q = k o' ∧ o'.length = code.length + 1 ∧ bits o' ∧ (∀ j, 0 ≤ j → on o' j → R1 code from_ j) ∧ Clo code from_ o') fun k2 hk2 => ?_
   refine y5L (P := fun q => ∃ o', q = k o' ∧ o'.length = code.length + 1 ∧ bits o' ∧ (∀ j, 0 ≤ j → on o' j → R1 code from_ j) ∧ Clo code from_ o') fun k3 hk3 => ?_
   obtain ⟨o1, e1, g1, g2, g3, g4, g5⟩ := l5 (from_ := from_) (k := k3) hc yB o 0 (by omega) (by omega) (by rw [y1D]; omega) hl hb hR
   rw [e1, hk3, hk2, yU (by omega)]
   refine l4 (from_ := from_) (k := k) hc n o1 (r + 1) (by omega) (by omega) (by omega) (by rw [g1.1]; exact hl) g2 g3 ?_
   obtain ⟨c1, c2⟩ := grow (m := code.length + 1) g1
   by_cases hn : ∃ j, 0 ≤ j ∧ j < ((code.length + 1 : Nat) : Int) ∧ on o1 j ∧ ¬ on o j
   ·rcases hq with hq | hq
    ·left
     intro a ha0 ha1 hao s hs
     by_cases hoa : a = from_ ∨ on o a
     ·exact g4 a ha0 ha1 hoa s hs
     ·exfalso
      -- a closed set does not grow
      have key : ∀ j, 0 ≤ j → on o1 j → on o j := g5 o hq fun _ _ h => h
      exact hoa (hao.imp id (key a ha0))
    ·right; have := c2 hn; omega
   ·left
    have same : ∀ j : Int, 0 ≤ j → j ≤ code.length → on o1 j → on o j := fun j hj0 hj1 hj => by
     apply Decidable.byContradiction
     intro hnj
     exact hn ⟨j, hj0, by omega, hj, hnj⟩
    intro a ha0 ha1 hao s hs
    exact g4 a ha0 ha1 (hao.imp id (same a ha0 (by omega))) s hs
  ·rw [if_neg (by simpa using h)]
   refine ⟨o, rfl, hl, hb, hR, ?_⟩
   rcases hq with hq | hq
   ·exact hq
   ·intro a _ _ _ s hs
    have hr := y1w hs
    exact full (m := code.length + 1) (by omega) s hr.2.2.1 (by omega)
theorem y6n (hc : code.length ≤ 24) (from_ : Int) (hf : 0 ≤ from_ ∧ from_ < code.length) : ∃ o, y1v code from_ = some o ∧ o.length = code.length + 1 ∧ ∀ j, 0 ≤ j → (on o j ↔ R1 code from_ j) := by
 unfold y1v
 rw [yU (x := (code.length : Int) + 1) (by omega), yv (by omega)]
 refine y5L (P := fun q => ∃ o, q = some o ∧ o.length = code.length + 1 ∧ ∀ j, 0 ≤ j → (on o j ↔ R1 code from_ j)) fun k hk => ?_
 have hz : ∀ j, nth (List.replicate ((code.length : Int) + 1).toNat (0 : Int)) j = 0 := fun j => by
  unfold nth
  rw [List.getD_eq_getElem?_getD, List.getElem?_replicate]
  split <;> rfl
 obtain ⟨o, e, h1, h2, h3, h4⟩ := l4 (from_ := from_) (k := k) hc yB (List.replicate ((code.length : Int) + 1).toNat 0) 0 (by omega) (by omega) (by rw [y1D]; omega) (by simp) (fun j => .inl (hz j)) (fun j _ hj => by unfold on at hj; rw [hz] at hj; omega) (.inr (by omega))
 refine ⟨o, e.trans (hk o), h1, fun j hj0 => ⟨h3 j hj0, fun h => ?_⟩⟩
 clear hj0
 induction h with
 | one hs => exact h4 from_ hf.1 hf.2 (.inl rfl) _ hs
 | step h hs ih => exact h4 _ (y1w hs).1 (y1w hs).2.1 (.inr ih) _ hs
/-! ### the reference: longest, Longest -/
theorem y7H {x : List Int} {rec_ : List Sapi_Ins → Int → Option Int} {k : Int → Option Int} {f : Int → Int} (hx : ∀ s ∈ x, rec_ code s = some (f s)) (hxl : x.length ≤ 2) : ∀ (n : Nat) (best i : Int), 0 ≤ i → i ≤ x.length → x.length < n + i → best = (x.take i.toNat).foldl (fun b s => max b (f s)) 0 →
  y1h x rec_ code k n best i = k (x.foldl (fun b s => max b (f s)) 0)
 | 0, best, i, h0, h1, h2, _ => by omega
 | n + 1, best, i, h0, h1, h2, hb => by
  rw [y1h]
  by_cases h : i < x.length
  ·have hm := y4E h0 h
   rw [if_pos (decide_eq_true h)]
   refine y3X fun k2 hk2 => ?_
   have e : (i : Int) + 1 = i64 (i + 1) := (yU (by omega)).symm
   have go : ∀ b : Int, b = max best (f (nth x i)) → k2 b = k (x.foldl (fun b s => max b (f s)) 0) := fun b hb' => by
    rw [hk2, ← e]
    refine y7H hx hxl n b (i + 1) (by omega) (by omega) (by omega) ?_
    rw [y5E x h0 h, List.foldl_append, ← hb, hb']; rfl
   rw [yv ⟨h0, h⟩, hx _ hm, Option.bind_some]
   by_cases hgt : f (nth x i) > best
   ·rw [if_pos (decide_eq_true hgt)]; exact go _ (by omega)
   ·rw [if_neg (by simpa using hgt)]; exact go _ (by omega)
  ·rw [if_neg (by simpa using h), hb, List.take_of_length_le (by omega)]
theorem y7h {val : Int → Option Int} (hc : code.length ≤ 24) (hV : y2K code = true) (hC : Cert code val) : ∀ (n : Nat) (i v : Int), v < n → v ≤ 48000 → val i = some v → yW n code i = some v
 | 0, i, v, h, _, hv => by have := hC.nonneg hV hv; omega
 | n + 1, i, v, h, hb, hv => by
  rw [yW]
  by_cases hi : i = code.length
  ·subst hi
   rw [if_pos (by simp)]
   rw [hC.zero] at hv
   exact hv
  ·obtain ⟨h0, h1, hs, e⟩ := hC.node i v hv hi
   rw [if_neg (by simp; omega)]
   refine y3X fun k hk => ?_
   have ho := y5N hV h0 h1
   have hk' : ∀ o : Int, o = own code i → k o = some v := fun o heq => by
    rw [hk, y69 (by omega), Option.bind_some]
    refine y3X fun k2 hk2 => ?_
    have hx : ∀ s ∈ yT code i, yW n code s = some ((val s).getD 0) := fun s hs' => by
     obtain ⟨w, hw⟩ := hs s hs'
     have := hC.lt hV hv hi hs' hw
     rw [y7h hc hV hC n s w (by omega) (by omega) hw, hw]; rfl
    rw [y7H (k := k2) (f := fun s => (val s).getD 0) hx (y3q _ _) yB 0 0 (by omega) (by omega) (by have := y3q code i; rw [y1D]; omega) (by simp), hk2, heq, ← e, yU (by have := hC.nonneg hV hv; omega)]
   rw [yv ⟨h0, h1⟩]
   by_cases h1' : (nth code i).fOp = 1
   ·rw [if_pos (decide_eq_true h1'), yv ⟨h0, h1⟩]
    exact hk' _ (by unfold own; rw [if_pos h1'])
   ·rw [if_neg (by simpa using h1')]
    exact hk' _ (by unfold own; rw [if_neg h1'])
theorem y7I {from_ : Int} {o : List Int} {k : Option (Int × Bool)} (hc : code.length ≤ 24) (hf : 0 ≤ from_ ∧ from_ < code.length) (hl : o.length = code.length + 1) (ho : ∀ j, 0 ≤ j → (on o j ↔ R1 code from_ j)) : ∀ (n : Nat) (i : Int), 0 ≤ i → i ≤ code.length → code.length < n + i →
  ((∃ a : Int, i ≤ a ∧ a < code.length ∧ (a = from_ ∨ R1 code from_ a) ∧ R1 code a a) → y11 code o from_ k n i = some (0, false)) ∧
  ((¬ ∃ a : Int, i ≤ a ∧ a < code.length ∧ (a = from_ ∨ R1 code from_ a) ∧ R1 code a a) → y11 code o from_ k n i = k)
 | 0, i, h0, h1, h2 => by omega
 | n + 1, i, h0, h1, h2 => by
  rw [y11]
  by_cases h : i < code.length
  ·have hset : on (o.set from_.toNat 1) i ↔ (i = from_ ∨ R1 code from_ i) := by
    unfold on
    rw [y5W hf.1 (by omega) h0]
    by_cases e : i = from_
    ·simp [e]
    ·rw [if_neg e]
     constructor
     ·exact fun h => .inr ((ho i h0).1 h)
     ·rintro (h | h)
      ·exact absurd h e
      ·exact (ho i h0).2 h
   obtain ⟨o2, e2, l2, ho2⟩ := y6n hc i ⟨h0, h⟩
   obtain ⟨r1, r2⟩ := y7I (k := k) hc hf hl ho n (i + 1) (by omega) (by omega) (by omega)
   rw [if_pos (decide_eq_true h), yv (by rw [List.length_set]; omega)]
   have eb : ((if decide ((nth (o.set from_.toNat 1) i) = 1) then (y1v code i).bind fun z6p => chk ((0 : Int) ≤ i ∧ i < ((z6p.length : Nat) : Int)) (some (decide ((nth z6p i) = 1))) else some false) : Option Bool) = some (decide (on (o.set from_.toNat 1) i ∧ on o2 i)) := by
    by_cases hq : on (o.set from_.toNat 1) i
    ·have hq' : nth (o.set from_.toNat 1) i = 1 := hq
     rw [if_pos (decide_eq_true hq'), e2, Option.bind_some, yv (by omega)]
     congr 1
     rw [Bool.eq_iff_iff]
     simp only [decide_eq_true_eq]
     exact ⟨fun h => ⟨hq, h⟩, fun h => h.2⟩
    ·have hq' : ¬ nth (o.set from_.toNat 1) i = 1 := hq
     rw [if_neg (by simpa using hq'), decide_eq_false (fun h => hq h.1)]
   rw [eb, Option.bind_some, yU (by omega)]
   by_cases hb : on (o.set from_.toNat 1) i ∧ on o2 i
   ·rw [if_pos (decide_eq_true hb)]
    exact ⟨fun _ => rfl, fun hn => absurd ⟨i, Int.le_refl _, h, hset.1 hb.1, (ho2 i h0).1 hb.2⟩ hn⟩
   ·rw [if_neg (by simpa using hb)]
    have step : (∃ a : Int, i ≤ a ∧ a < code.length ∧ (a = from_ ∨ R1 code from_ a) ∧ R1 code a a) ↔ (∃ a : Int, i + 1 ≤ a ∧ a < code.length ∧ (a = from_ ∨ R1 code from_ a) ∧ R1 code a a) := by
     constructor
     ·rintro ⟨a, h3, h4, h5, h6⟩
      by_cases e : a = i
      ·subst e; exact absurd ⟨hset.2 h5, (ho2 a h0).2 h6⟩ hb
      ·exact ⟨a, by omega, h4, h5, h6⟩
     ·rintro ⟨a, h3, h4, h5, h6⟩; exact ⟨a, by omega, h4, h5, h6⟩
    exact ⟨fun he => r1 (step.1 he), fun hn => r2 fun he => hn (step.2 he)⟩
  ·rw [if_neg (by simpa using h)]
   exact ⟨fun ⟨a, h3, h4, _⟩ => by omega, fun _ => rfl⟩
theorem r1_src {i j : Int} (h : R1 code i j) : 0 ≤ i ∧ i < code.length := by
 induction h with
 | one hs => exact ⟨(y1w hs).1, (y1w hs).2.1⟩
 | step _ _ ih => exact ih
theorem y7J {val : Int → Option Int} (hV : y2K code = true) (hC : Cert code val) {i j v : Int} (h : R1 code i j) (hv : val i = some v) : ∃ w, val j = some w ∧ w < v := by
 have ne : ∀ {i s : Int}, s ∈ yT code i → i ≠ code.length := fun hs e => by have := y1w hs; omega
 induction h with
 | one hs =>
  obtain ⟨_, _, c, _⟩ := hC.node i v hv (ne hs)
  obtain ⟨w, hw⟩ := c _ hs
  exact ⟨w, hw, hC.lt hV hv (ne hs) hs hw⟩
 | step h hs ih =>
  obtain ⟨u, hu, hlt⟩ := ih
  obtain ⟨_, _, c, _⟩ := hC.node _ u hu (ne hs)
  obtain ⟨w, hw⟩ := c _ hs
  have := hC.lt hV hu (ne hs) hs hw
  exact ⟨w, hw, by omega⟩
theorem y7q (hc : code.length ≤ 24) (i : Int) : y26 code i = y1k code i := by
 obtain ⟨v, b, e, hvb, h1, h2, h3, h4⟩ := y5O hc i
 rw [e]
 unfold y26
 rw [y6M (by omega), Option.bind_some]
 by_cases hV : y2K code = true
 ·by_cases hi : 0 ≤ i ∧ i ≤ code.length
  ·rw [if_neg (by simp [hV]; omega)]
   by_cases he : i = code.length
   ·rw [if_pos (decide_eq_true he)]
    obtain ⟨rfl, rfl⟩ := h3 hV (fun j => if j = code.length then some 0 else none) 0 ⟨by simp, fun j w hj hn => by rw [if_neg hn] at hj; cases hj⟩ (by omega) (by omega) (by simp [he])
    rfl
   ·rw [if_neg (by simpa using he)]
    have hin : 0 ≤ i ∧ i < code.length := by omega
    obtain ⟨o, eo, ol, oo⟩ := y6n hc i hin
    rw [eo, Option.bind_some, yv (by omega)]
    refine jp0_ex (P := fun q => q = some (v, b)) fun k hk => ?_
    obtain ⟨r1, r2⟩ := y7I (k := k) hc hin ol oo yB 0 (by omega) (by omega) (by rw [y1D]; omega)
    by_cases hx : ∃ a : Int, 0 ≤ a ∧ a < code.length ∧ (a = i ∨ R1 code i a) ∧ R1 code a a
    ·rw [r1 hx]
     have hb : b = false := by
      cases b with
      | false => rfl
      | true =>
       exfalso
       obtain ⟨_, _, _, val, hC, hv⟩ := h2 rfl
       obtain ⟨a, _, _, ha, haa⟩ := hx
       obtain ⟨u, hu⟩ : ∃ u, val a = some u := by
        rcases ha with rfl | ha
        ·exact ⟨v, hv⟩
        ·obtain ⟨u, hu, _⟩ := y7J hV hC ha hv; exact ⟨u, hu⟩
       obtain ⟨w, hw, hlt⟩ := y7J hV hC haa hu
       rw [hu] at hw
       have := Option.some.inj hw; omega
     subst hb
     rw [h1 rfl]
    ·have hb : b = true := h4 hV hi.1 hi.2 fun j hj hjj => hx ⟨j, (r1_src hjj).1, (r1_src hjj).2, hj, hjj⟩
     subst hb
     obtain ⟨_, _, _, val, hC, hv⟩ := h2 rfl
     rw [r2 hx, hk]
     unfold y3D
     rw [y7h hc hV hC yB i v (by rw [y1D]; omega) hvb.2 hv, Option.bind_some]
  ·rw [if_pos (by simp [hV]; omega)]
   have hb : b = false := by
    cases b with
    | false => rfl
    | true => have := (h2 rfl).2; exact absurd ⟨this.1, this.2.1⟩ hi
   subst hb
   rw [h1 rfl]
 ·have hV' : y2K code = false := by simpa using hV
  rw [if_pos (by simp [hV'])]
  have hb : b = false := by
   cases b with
   | false => rfl
   | true => exact absurd (h2 rfl).1 hV
  subst hb
  rw [h1 rfl]
end
end Go.Proofs.YtjdnejbngloieaaDoor
