/- A part of this claim's proof: models of functions, walks, plain laws. No conditions. -/
import Derived.Test.YtinchjigeakocaaP31a
namespace Go.Proofs.Ytinchjigeakocaa
open Go Go.RowKit Sep
set_option linter.all false
abbrev Fr := Sport_frame
abbrev Pt := Sport_Port
theorem y3n {α : Type} [Inhabited α] {l : List α} {v : Int} (h0 : 0 ≤ v) (h : v < l.length) : l.drop v.toNat = nth l v :: l.drop (v.toNat + 1) := by
 have h3 : v.toNat < l.length := by omega
 rw [← List.getElem_cons_drop h3, y4g (l := l) h0 h]
/-! ### slices.IndexFunc, slices.DeleteFunc -/
theorem y6t {l : List Fr} {f : Fr → Option Bool} {p : Fr → Bool} {k : Option Int} (hf : ∀ y, f y = some (p y)) (hl : l.length < 9000000000000000000) : ∀ (n : Nat) (v : Int), 0 ≤ v → v ≤ l.length → l.length < n + v →
  (∃ i : Int, v ≤ i ∧ i < l.length ∧ p (nth l i) = true ∧ (∀ x ∈ (l.drop v.toNat).take (i - v).toNat, p x = false) ∧ yB l f k n v = some i) ∨ ((∀ x ∈ l.drop v.toNat, p x = false) ∧ yB l f k n v = k)
 | 0, v, h0, h1, h2 => by omega
 | n + 1, v, h0, h1, h2 => by
  rw [yB]
  by_cases h : v < l.length
  ·rw [if_pos (decide_eq_true h), yn ⟨h0, h⟩]
   show _ ∨ (_ ∧ ((f (nth l v)).bind _) = k)
   rw [show (f (⟨((nth l v).fSize), ((nth l v).fFin)⟩ : Fr)) = f (nth l v) from rfl, hf]
   simp only [Option.bind_some]
   cases hp : p (nth l v) with
   | true => exact .inl ⟨v, Int.le_refl _, h, hp, by simp, by simp⟩
   | false =>
    simp only [Bool.false_eq_true, if_false]
    rw [ym (x := v + 1) (by omega)]
    have hd := y3n h0 h
    have e1 : (v + 1).toNat = v.toNat + 1 := by omega
    rcases y6t hf hl n (v + 1) (by omega) (by omega) (by omega) (k := k) with ⟨i, i1, i2, i3, i4, i5⟩ | ⟨i1, i2⟩
    ·refine .inl ⟨i, by omega, i2, i3, ?_, i5⟩
     rw [hd, show (i - v).toNat = (i - (v + 1)).toNat + 1 by omega, List.take_succ_cons]
     intro x hx
     rcases List.mem_cons.1 hx with rfl | hx
     ·exact hp
     ·rw [e1] at i4; exact i4 x hx
    ·refine .inr ⟨?_, i2⟩
     rw [hd]
     intro x hx
     rcases List.mem_cons.1 hx with rfl | hx
     ·exact hp
     ·rw [e1] at i1; exact i1 x hx
  ·rw [if_neg (by simpa using h), List.drop_eq_nil_of_le (by omega)]
   exact .inr ⟨by simp, rfl⟩
theorem index_eq {l : List Fr} {f : Fr → Option Bool} {p : Fr → Bool} (hf : ∀ y, f y = some (p y)) (hl : l.length < 9000000000000000000) :
  (∃ i : Int, 0 ≤ i ∧ i < l.length ∧ p (nth l i) = true ∧ (∀ x ∈ l.take i.toNat, p x = false) ∧ yW l f = some i) ∨ ((∀ x ∈ l, p x = false) ∧ yW l f = some (-1)) := by
 unfold yW
 have hF := y1d
 generalize ys = N at hF ⊢
 refine y30 (P := fun o => (∃ i : Int, 0 ≤ i ∧ i < l.length ∧ p (nth l i) = true ∧ (∀ x ∈ l.take i.toNat, p x = false) ∧ o = some i) ∨ ((∀ x ∈ l, p x = false) ∧ o = some (-1))) fun k hk => ?_
 rcases y6t hf hl N 0 (by omega) (by omega) (by omega) (k := k) with ⟨i, i1, i2, i3, i4, i5⟩ | ⟨i1, i2⟩
 ·exact .inl ⟨i, i1, i2, i3, by simpa using i4, i5⟩
 ·exact .inr ⟨by simpa using i1, i2.trans hk⟩
theorem y7D {f : Fr → Option Bool} {p : Fr → Bool} {k : List Fr → Int → Option (List Fr)} (hf : ∀ y, f y = some (p y)) : ∀ (n : Nat) (s : List Fr) (i j : Int), s.length < 9000000000000000000 → 0 ≤ i → i ≤ j → j ≤ s.length → s.length < n + j →
  ∃ s' i', yF f k n s i j = k s' i' ∧ s'.length = s.length ∧ 0 ≤ i' ∧ i' ≤ s.length ∧ s'.take i'.toNat = s.take i.toNat ++ (s.drop j.toNat).filter (fun x => !p x)
 | 0, s, i, j, hl, h0, h1, h2, h3 => by omega
 | n + 1, s, i, j, hl, h0, h1, h2, h3 => by
  rw [yF]
  by_cases h : j < s.length
  ·rw [if_pos (decide_eq_true h)]
   refine y3y (P := fun o => ∃ s' i', o = k s' i' ∧ s'.length = s.length ∧ 0 ≤ i' ∧ i' ≤ s.length ∧ s'.take i'.toNat = s.take i.toNat ++ (s.drop j.toNat).filter (fun x => !p x)) fun kk hkk => ?_
   rw [yn ⟨by omega, h⟩, show (f (⟨((nth s j).fSize), ((nth s j).fFin)⟩ : Fr)) = f (nth s j) from rfl, hf]
   simp only [Option.bind_some]
   have hd := y3n (l := s) (v := j) (by omega) h
   have e1 : (j + 1).toNat = j.toNat + 1 := by omega
   cases hp : p (nth s j) with
   | true =>
    simp only [Bool.not_true, Bool.false_eq_true, if_false]
    rw [hkk, ym (x := j + 1) (by omega)]
    obtain ⟨s', i', a1, a2, a3, a4, a5⟩ := y7D hf (k := k) n s i (j + 1) hl h0 (by omega) (by omega) (by omega)
    refine ⟨s', i', a1, a2, a3, a4, ?_⟩
    rw [a5, e1, hd, List.filter_cons, hp]; rfl
   | false =>
    simp only [Bool.not_false, if_true]
    rw [yn ⟨h0, by omega⟩, hkk, ym (x := j + 1) (by omega), ym (x := i + 1) (by omega)]
    obtain ⟨s', i', a1, a2, a3, a4, a5⟩ := y7D hf (k := k) n (s.set i.toNat (nth s j)) (i + 1) (j + 1) (by rw [List.length_set]; exact hl) (by omega) (by omega) (by rw [List.length_set]; omega) (by rw [List.length_set]; omega)
    rw [List.length_set] at a2 a4
    refine ⟨s', i', a1, a2, a3, a4, ?_⟩
    rw [a5, hd, List.filter_cons, hp]
    have hi : i.toNat < s.length := by omega
    have b1 : (s.set i.toNat (nth s j)).take (i + 1).toNat = s.take i.toNat ++ [nth s j] := by
     rw [show (i + 1).toNat = i.toNat + 1 by omega, List.set_eq_take_append_cons_drop, if_pos hi, List.take_append]
     rw [List.length_take, Nat.min_eq_left (by omega), List.take_of_length_le (by rw [List.length_take]; omega)]
     simp
    have b2 : (s.set i.toNat (nth s j)).drop (j + 1).toNat = s.drop (j.toNat + 1) := by
     rw [e1, List.drop_set_of_lt (by omega)]
    rw [b1, b2]; simp
  ·rw [if_neg (by simpa using h)]
   refine ⟨s, i, rfl, rfl, h0, by omega, ?_⟩
   rw [List.drop_eq_nil_of_le (by omega)]; simp
theorem del_eq {l : List Fr} {f : Fr → Option Bool} {p : Fr → Bool} (hf : ∀ y, f y = some (p y)) (hl : l.length < 9000000000000000000) : yU l f = some (l.filter fun x => !p x) := by
 unfold yU
 have hF := y1d
 generalize ys = N at hF ⊢
 rcases index_eq hf hl with ⟨i, i1, i2, i3, i4, i5⟩ | ⟨i1, i2⟩
 ·rw [i5]
  simp only [Option.bind_some]
  rw [if_neg (by simp; omega)]
  refine y3y (P := fun o => o = some (l.filter fun x => !p x)) fun kk hkk => ?_
  rw [ym (by omega)]
  obtain ⟨s', i', a1, a2, a3, a4, a5⟩ := y7D hf (k := kk) N l i (i + 1) hl (by omega) (by omega) (by omega) (by omega)
  rw [a1, hkk, yn ⟨a3, by rw [a2]; exact a4⟩, yn ⟨a3, by rw [List.length_append, List.length_take, List.length_replicate]; omega⟩]
  congr 1
  rw [List.take_append_of_le_length (by rw [List.length_take]; omega), List.take_take, Nat.min_self, a5]
  have hd := y3n (l := l) (v := i) (by omega) i2
  conv => rhs; rw [← List.take_append_drop i.toNat l, List.filter_append, hd, List.filter_cons, i3]
  rw [show (i + 1).toNat = i.toNat + 1 by omega]
  simp only [Bool.not_true, Bool.false_eq_true, if_false]
  congr 1
  refine (List.filter_eq_self.2 fun x hx => ?_).symm
  rw [i4 x hx]; rfl
 ·rw [i2]
  simp only [Option.bind_some, decide_true, if_true]
  congr 1
  refine (List.filter_eq_self.2 fun x hx => ?_).symm
  rw [i1 x hx]; rfl
/-! ### the port -/
def y42 : List Fr → Int
 | [] => 0
 | x :: l => x.fSize + y42 l
theorem sizes_bd {l : List Fr} (h : ∀ x ∈ l, 1 ≤ x.fSize ∧ x.fSize ≤ 72) : 0 ≤ y42 l ∧ y42 l ≤ 72 * l.length := by
 induction l with
 | nil => simp [y42]
 | cons x l ih =>
  have h1 := h x (by simp)
  have h2 := ih (fun y hy => h y (List.mem_cons_of_mem _ hy))
  simp only [y42, List.length_cons]
  omega
theorem y7E {p : Pt} {f : Fr → Option Bool} {q : Fr → Bool} {k : Int → Option Int} (hf : ∀ y, f y = some (q y)) (hs : ∀ x ∈ p.fFrames, 1 ≤ x.fSize ∧ x.fSize ≤ 72) (hl : p.fFrames.length < 1000000000) :
  ∀ (n : Nat) (a v : Int), 0 ≤ v → v ≤ p.fFrames.length → p.fFrames.length < n + v → 0 ≤ a → a ≤ 72 * v → y2e p f k n a v = k (a + y42 ((p.fFrames.drop v.toNat).filter q))
 | 0, a, v, h0, h1, h2, h3, h4 => by omega
 | n + 1, a, v, h0, h1, h2, h3, h4 => by
  rw [y2e]
  by_cases h : v < p.fFrames.length
  ·rw [if_pos (decide_eq_true h)]
   refine y1H (P := fun o => o = k (a + y42 ((p.fFrames.drop v.toNat).filter q))) fun kk hkk => ?_
   rw [yn ⟨h0, h⟩, show (f (⟨((nth p.fFrames v).fSize), ((nth p.fFrames v).fFin)⟩ : Fr)) = f (nth p.fFrames v) from rfl, hf]
   simp only [Option.bind_some]
   have hx := hs _ (y48 h0 h)
   have hd := y3n (l := p.fFrames) (v := v) h0 h
   have e1 : (v + 1).toNat = v.toNat + 1 := by omega
   rw [hd, List.filter_cons]
   cases hq : q (nth p.fFrames v) with
   | true =>
    simp only [if_true]
    rw [ym (x := a + _) (by omega), hkk, ym (x := v + 1) (by omega), y7E hf hs hl n _ (v + 1) (by omega) (by omega) (by omega) (by omega) (by omega), e1]
    simp only [y42]; congr 1; omega
   | false =>
    simp only [Bool.false_eq_true, if_false]
    rw [hkk, ym (x := v + 1) (by omega), y7E hf hs hl n _ (v + 1) (by omega) (by omega) (by omega) (by omega) (by omega), e1]
  ·rw [if_neg (by simpa using h), List.drop_eq_nil_of_le (by omega)]
   simp [y42]
theorem sum_eq {p : Pt} {f : Fr → Option Bool} {q : Fr → Bool} (hf : ∀ y, f y = some (q y)) (hs : ∀ x ∈ p.fFrames, 1 ≤ x.fSize ∧ x.fSize ≤ 72) (hl : p.fFrames.length < 1000000000) : y2Y p f = some (y42 (p.fFrames.filter q)) := by
 unfold y2Y
 have hF := y1d
 generalize ys = N at hF ⊢
 refine y1H (P := fun o => o = some (y42 (p.fFrames.filter q))) fun k hk => ?_
 rw [y7E hf hs hl N 0 0 (by omega) (by omega) (by omega) (by omega) (by omega), hk]
 simp
structure PI (p : Pt) : Prop where
 slow : 1 ≤ p.fNumbers.fSlow ∧ p.fNumbers.fSlow ≤ 16
 delay : 0 ≤ p.fNumbers.fDelay ∧ p.fNumbers.fDelay ≤ 1000
 store : 0 ≤ p.fNumbers.fStore ∧ p.fNumbers.fStore ≤ 1073741824
 now : 0 ≤ p.fNow
 last : 0 ≤ p.fLast ∧ p.fLast ≤ 1000000000000
 sz : ∀ x ∈ p.fFrames, 1 ≤ x.fSize ∧ x.fSize ≤ 72
 len : p.fFrames.length ≤ 100000
def y4A (t : Int) (l : List Fr) : List Fr := l.filter fun x => decide (x.fFin > t)
def y2P (p : Pt) (t size : Int) : Int := max (t + p.fNumbers.fDelay) p.fLast + size * p.fNumbers.fSlow
def y1I (p : Pt) (t size : Int) : Int × Int × Pt :=
 if size < 1 ∨ size > 72 ∨ t < p.fNow ∨ t > 1073741824 then (0, 2, p)
 else if y42 (y4A t p.fFrames) + size > p.fNumbers.fStore then (0, 4, ⟨p.fNumbers, t, p.fLast, y4A t p.fFrames⟩)
 else (y2P p t size, 0, ⟨p.fNumbers, t, y2P p t size, y4A t p.fFrames ++ [⟨size, y2P p t size⟩]⟩)
theorem y7F {t : Int} {l : List Fr} : ∀ x ∈ y4A t l, x ∈ l := fun x hx => (List.mem_filter.1 hx).1
theorem y5D {t : Int} {l : List Fr} : (y4A t l).length ≤ l.length := List.length_filter_le _ _
theorem y83 {a b : Int} (ha : 1 ≤ a ∧ a ≤ 72) (hb : 1 ≤ b ∧ b ≤ 16) : 1 ≤ a * b ∧ a * b ≤ 1152 := by
 constructor
 ·exact Int.le_trans (by omega) (Int.mul_le_mul ha.1 hb.1 (by omega) (by omega))
 ·exact Int.le_trans (Int.mul_le_mul ha.2 hb.2 (by omega) (by omega)) (by omega)
theorem put_eq {p : Pt} {t size : Int} (h : PI p) : y2B p t size = some (y1I p t size) := by
 unfold y2B y2O
 obtain ⟨⟨h1, h2⟩, ⟨h3, h4⟩, ⟨h5, h6⟩, h7, ⟨h8, h9⟩, h10, h11⟩ := h
 simp only [Option.bind_some]
 rw [if_neg (by simp; omega)]
 unfold y1I
 by_cases hc : size < 1 ∨ size > 72 ∨ t < p.fNow ∨ t > 1073741824
 ·rw [if_pos hc, if_pos (by simp only [Bool.or_eq_true, decide_eq_true_eq]; omega)]
 ·rw [if_neg hc, if_neg (by simp only [Bool.or_eq_true, decide_eq_true_eq]; omega)]
  have hdel : yU p.fFrames (fun (y0 : Fr) => y2F y0 t) = some (y4A t p.fFrames) := by
   rw [del_eq (f := fun (y0 : Fr) => y2F y0 t) (p := fun y => decide (y.fFin ≤ t)) (fun _ => rfl) (by omega)]
   congr 1
   unfold y4A
   congr 1; funext x
   by_cases hx : x.fFin ≤ t
   ·simp [hx]
   ·simp [hx]; omega
  rw [hdel]
  simp only [Option.bind_some]
  unfold y41 y2O
  simp only [Option.bind_some]
  rw [if_neg (by simp; omega)]
  have hw : ∀ x ∈ y4A t p.fFrames, 1 ≤ x.fSize ∧ x.fSize ≤ 72 := fun x hx => h10 x (y7F x hx)
  have hwl : (y4A t p.fFrames).length ≤ 100000 := Nat.le_trans y5D h11
  have hsum : y2Y (⟨p.fNumbers, t, p.fLast, y4A t p.fFrames⟩ : Pt) (fun (y0 : Fr) => y2v y0 (max t t)) = some (y42 (y4A t p.fFrames)) := by
   rw [sum_eq (f := fun (y0 : Fr) => y2v y0 (max t t)) (q := fun y => decide (y.fFin > max t t)) (fun _ => rfl) hw (by simp only; omega)]
   congr 2
   refine List.filter_eq_self.2 fun x hx => ?_
   have := (List.mem_filter.1 hx).2
   simpa using this
  rw [hsum]
  simp only [Option.bind_some]
  have hb := sizes_bd hw
  have hm := y83 (a := size) (b := p.fNumbers.fSlow) (by omega) ⟨h1, h2⟩
  rw [ym (x := y42 _ + size) (by omega)]
  by_cases hf : y42 (y4A t p.fFrames) + size > p.fNumbers.fStore
  ·rw [if_pos (decide_eq_true hf), if_pos hf]
  ·rw [if_neg (by simpa using hf), if_neg hf, ym (x := t + _) (by omega), ym (x := size * _) (by omega), ym (x := max _ _ + _) (by omega)]
   rw [yn (by simp; omega)]
   rfl
theorem putS_PI {p : Pt} {t size : Int} (h : PI p) (ht : 0 ≤ t) (hl : p.fFrames.length ≤ 99999) (hb : p.fLast ≤ 900000000000) : PI (y1I p t size).2.2 := by
 unfold y1I
 split
 ·exact h
 ·rename_i hc
  split
  ·exact ⟨h.slow, h.delay, h.store, ht, h.last, fun x hx => h.sz x (y7F x hx), Nat.le_trans y5D h.len⟩
  ·have hm := y83 (a := size) (b := p.fNumbers.fSlow) (by omega) h.slow
   have hd := h.delay
   have hla := h.last
   refine ⟨h.slow, h.delay, h.store, ht, by simp only [y2P]; omega, fun x hx => ?_, ?_⟩
   ·rcases List.mem_append.1 hx with hx | hx
    ·exact h.sz x (y7F x hx)
    ·simp at hx; subst hx; simp only; omega
   ·have := y5D (t := t) (l := p.fFrames)
    simp only [List.length_append, List.length_singleton]; omega
end Go.Proofs.Ytinchjigeakocaa
