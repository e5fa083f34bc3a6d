/- A part of this claim's proof: models of functions, walks, plain laws. No conditions. -/
import Derived.Test.YtakfmdiiehcbdaaW03g
import Derived.Test.YtakfmdiiehcbdaaZLoops
namespace Go.Proofs.Ytakfmdiiehcbdaa
open Go Go.RowKit Sep
set_option linter.all false
theorem y96 {R : Type} {K : Option R} {F : Option R → Option R} {P : Option R → Prop} (h : ∀ k : Option R, k = K → P (F k)) : P (jp0 K F) := h K rfl
theorem y1P {R A0 : Type} {K : A0 → Option R} {F : (A0 → Option R) → Option R} {P : Option R → Prop} (h : ∀ k : A0 → Option R, (∀ x0, k x0 = K x0) → P (F k)) : P (jp1 K F) := h K fun _ => rfl
theorem y5V {a b : Int} (h : 0 ≤ a) : Int.tmod a b = a % b := Int.tmod_eq_emod_of_nonneg h
abbrev SE := zSt
def FG (l : List SE) (q : Int) : Prop := 0 ≤ (nth l q).fTime ∧ (nth l q).fTime ≤ 1073741824 ∧ 1 ≤ (nth l q).fSize ∧ (nth l q).fSize ≤ 72 ∧ (0 < q → (nth l (q - 1)).fTime ≤ (nth l q).fTime)
instance (l : List SE) (q : Int) : Decidable (FG l q) := inferInstanceAs (Decidable (_ ∧ _))
theorem y7H {l : List SE} {k : Option Bool} (hs : (l.length : Int) ≤ 9000000000000000000) : ∀ (n : Nat) (v : Int), 0 ≤ v → v ≤ l.length → l.length < n + v →
  (∃ q : Int, v ≤ q ∧ q < l.length ∧ ¬ FG l q) ∧ y1E l k n v = some false ∨ (∀ q : Int, v ≤ q → q < l.length → FG l q) ∧ y1E l k n v = k
 | 0, v, h0, h1, h2 => by omega
 | n + 1, v, h0, h1, h2 => by
  rw [y1E]
  by_cases h : v < l.length
  ·rw [if_pos (decide_eq_true h), yj ⟨h0, h⟩, yj (fun _ h' => by have h' := of_decide_eq_true h'; rw [yn (by omega)]; omega)]
   rw [yn (x := v + 1) (by omega)]
   by_cases hg : FG l v
   ·have hc : ¬ (((((decide (((nth l v).fTime) < 0)) || (decide (((nth l v).fTime) > 1073741824))) || (decide (((nth l v).fSize) < 1))) || (decide (((nth l v).fSize) > 72))) || ((decide (v > 0)) && (decide (((nth l (i64 (v - 1))).fTime) > ((nth l v).fTime))))) = true := by
     obtain ⟨g1, g2, g3, g4, g5⟩ := hg
     simp only [Bool.or_eq_true, Bool.and_eq_true, decide_eq_true_eq]
     rintro ((((h | h) | h) | h) | ⟨h, h'⟩)
     ·omega
     ·omega
     ·omega
     ·omega
     ·rw [yn (by omega)] at h'
      have := g5 h; omega
    rw [if_neg hc]
    rcases y7H hs n (v + 1) (by omega) (by omega) (by omega) (k := k) with ⟨⟨q, q1, q2, q3⟩, h3⟩ | ⟨h3, h4⟩
    ·exact .inl ⟨⟨q, by omega, q2, q3⟩, h3⟩
    ·refine .inr ⟨fun q q1 q2 => ?_, h4⟩
     by_cases e : q = v
     ·rw [e]; exact hg
     ·exact h3 q (by omega) q2
   ·have hc : (((((decide (((nth l v).fTime) < 0)) || (decide (((nth l v).fTime) > 1073741824))) || (decide (((nth l v).fSize) < 1))) || (decide (((nth l v).fSize) > 72))) || ((decide (v > 0)) && (decide (((nth l (i64 (v - 1))).fTime) > ((nth l v).fTime))))) = true := by
     refine Classical.byContradiction fun hn => hg ?_
     simp only [Bool.or_eq_true, Bool.and_eq_true, decide_eq_true_eq, not_or, not_and] at hn
     obtain ⟨⟨⟨⟨a1, a2⟩, a3⟩, a4⟩, a5⟩ := hn
     refine ⟨by omega, by omega, by omega, by omega, fun h => ?_⟩
     have := a5 h
     rw [yn (by omega)] at this
     omega
    rw [if_pos hc]
    exact .inl ⟨⟨v, Int.le_refl _, h, hg⟩, rfl⟩
  ·rw [if_neg (by simpa using h)]
   exact .inr ⟨fun q h1 h2 => by omega, rfl⟩
def FRP (l : List SE) : Prop := (∀ q : Int, 0 ≤ q → q < l.length → FG l q) ∧ (l.length : Int) ≤ 4000
theorem yaq {l : List SE} (hs : (l.length : Int) ≤ 900000000000) : ∃ r, y2h l = some r ∧ (r = true ↔ FRP l) := by
 unfold y2h
 refine y96 (P := fun o => ∃ r, o = some r ∧ (r = true ↔ FRP l)) fun k hk => ?_
 rcases y7H (l := l) (k := k) (by omega) yu 0 (by omega) (by omega) (by rw [y1C]; omega) with ⟨⟨q, q1, q2, q3⟩, h3⟩ | ⟨h3, h4⟩
 ·refine ⟨false, h3, ?_⟩
  simp only [Bool.false_eq_true, false_iff]
  exact fun h => q3 (h.1 q q1 q2)
 ·refine ⟨_, h4.trans hk, ?_⟩
  rw [decide_eq_true_eq]
  exact ⟨fun h => ⟨h3, h⟩, fun h => h.2⟩
theorem y8y {l : List SE} (h : FRP l) : y2h l = some true := by
 obtain ⟨r, e, hr⟩ := yaq (l := l) (by have := h.2; omega)
 rw [e, hr.2 h]
/-! ### Serve -/
def SVE (slow delay : Int) : List SE → Int → List Int
 | [], _ => []
 | f :: l, e => (max e (f.fTime + delay) + f.fSize * slow) :: SVE slow delay l (max e (f.fTime + delay) + f.fSize * slow)
theorem y4q {slow delay : Int} : ∀ (l : List SE) (e : Int), (SVE slow delay l e).length = l.length
 | [], e => rfl
 | f :: l, e => by simp [SVE, y4q l]
theorem mul_bd {a b : Int} (ha : 1 ≤ a ∧ a ≤ 72) (hb : 1 ≤ b ∧ b ≤ 16) : 1 ≤ a * b ∧ a * b ≤ 1152 := by
 constructor
 ·exact Int.le_trans (by omega) (Int.mul_le_mul ha.1 hb.1 (by omega) (by omega))
 ·exact Int.le_trans (Int.mul_le_mul ha.2 hb.2 (by omega) (by omega)) (by omega)
theorem y86 {l : List SE} {slow delay : Int} {k : List Int → Option (List Int × Int)} (hl : FRP l) (h1 : 1 ≤ slow ∧ slow ≤ 16) (h2 : 0 ≤ delay ∧ delay ≤ 1000) :
  ∀ (n : Nat) (o : List Int) (e v : Int), 0 ≤ v → v ≤ l.length → l.length < n + v → (o.length : Int) = v → 0 ≤ e → e ≤ 1073742824 + 1152 * v → y22 l delay slow k n o e v = k (o ++ SVE slow delay (l.drop v.toNat) e)
 | 0, o, e, v, g0, g1, g2, g3, g4, g5 => by omega
 | n + 1, o, e, v, g0, g1, g2, g3, g4, g5 => by
  rw [y22]
  have h4 := hl.2
  by_cases h : v < l.length
  ·obtain ⟨f1, f2, f3, f4, _⟩ := hl.1 v g0 h
   have hm := mul_bd ⟨f3, f4⟩ h1
   rw [if_pos (decide_eq_true h), yj ⟨g0, h⟩, yn (x := (nth l v).fTime + delay) (by omega), yn (x := (nth l v).fSize * slow) (by omega), yn (x := max e _ + _) (by omega), yn (x := v + 1) (by omega)]
   rw [yj (by simp only [List.length_append, List.length_cons, List.length_nil]; omega)]
   rw [y86 hl h1 h2 n _ _ (v + 1) (by omega) (by omega) (by omega) (by simp only [List.length_append, List.length_cons, List.length_nil]; omega) (by omega) (by omega), y3E g0 h, List.append_assoc]
   rfl
  ·rw [if_neg (by simpa using h), y4d h]
   simp [SVE]
theorem serve_eq {l : List SE} {slow delay : Int} (hl : FRP l) (h1 : 1 ≤ slow ∧ slow ≤ 16) (h2 : 0 ≤ delay ∧ delay ≤ 1000) : y2L l slow delay = some (SVE slow delay l 0, 0) := by
 unfold y2L
 rw [y8y hl, Option.bind_some, if_neg (by simp; omega)]
 refine y1P (P := fun o => o = _) fun k hk => ?_
 rw [y86 hl h1 h2 yu [] 0 0 (by omega) (by omega) (by rw [y1C]; have := hl.2; omega) rfl (by omega) (by omega), hk, Int.toNat_zero, List.drop_zero, List.nil_append]
theorem y8l {slow delay : Int} : ∀ (l : List SE) (e : Int) (i : Nat) (h : i < l.length), (SVE slow delay l e)[i]'(by rw [y4q]; exact h) = max (if i = 0 then e else (SVE slow delay l e)[i - 1]'(by rw [y4q]; omega)) (l[i].fTime + delay) + l[i].fSize * slow
 | [], e, i, h => by simp at h
 | f :: l, e, 0, h => by simp [SVE]
 | f :: l, e, 1, h => by
  simp only [SVE, List.getElem_cons_succ]
  rw [y8l l _ 0 (by simp at h; omega)]
  simp
 | f :: l, e, i + 2, h => by
  simp only [SVE, List.getElem_cons_succ]
  rw [y8l l _ (i + 1) (by simp at h; omega)]
  simp
/-! ### Flow -/
theorem y8z {sizes waits : List Int} {vl gap : Int} {k : List SE → Option (List SE)} (hs : ∀ x ∈ sizes, 0 ≤ x ∧ x ≤ 255) (hw : ∀ x ∈ waits, 0 ≤ x ∧ x ≤ 255) (hg : 0 ≤ gap ∧ gap ≤ 1000) :
  ∀ (n : Nat) (o : List SE) (t v : Int), 0 ≤ v → v ≤ (sizes.take ((min ((sizes.length : Nat) : Int) 12) : Int).toNat).length → 12 < n + v → (o.length : Int) = v → 0 ≤ t → t ≤ 1300 * v → (∀ f ∈ o, 0 ≤ f.fTime ∧ f.fTime + gap ≤ t ∧ 1 ≤ f.fSize ∧ f.fSize ≤ 72 ∧ f.fVL = vl) → o.Pairwise (fun f g => f.fTime + gap ≤ g.fTime) →
   ∃ d : List SE, y2x sizes vl gap waits k n o t v = k d ∧ (∀ f ∈ d, 0 ≤ f.fTime ∧ f.fTime ≤ 20000 ∧ 1 ≤ f.fSize ∧ f.fSize ≤ 72 ∧ f.fVL = vl) ∧ d.Pairwise (fun f g => f.fTime + gap ≤ g.fTime) ∧ d.length ≤ 12
 | 0, o, t, v, g0, g1, g2, g3, g4, g5, g6, g7 => by rw [List.length_take] at g1; omega
 | n + 1, o, t, v, g0, g1, g2, g3, g4, g5, g6, g7 => by
  rw [y2x]
  have hl : (sizes.take ((min ((sizes.length : Nat) : Int) 12) : Int).toNat).length ≤ 12 := by rw [List.length_take]; omega
  by_cases h : v < (sizes.take ((min ((sizes.length : Nat) : Int) 12) : Int).toNat).length
  ·rw [if_pos (decide_eq_true h), yj ⟨g0, h⟩]
   refine y1P (P := fun o => ∃ d : List SE, o = k d ∧ (∀ f ∈ d, 0 ≤ f.fTime ∧ f.fTime ≤ 20000 ∧ 1 ≤ f.fSize ∧ f.fSize ≤ 72 ∧ f.fVL = vl) ∧ d.Pairwise (fun f g => f.fTime + gap ≤ g.fTime) ∧ d.length ≤ 12) fun k1 hk1 => ?_
   have hsz := hs _ (List.mem_of_mem_take (y2Y g0 h))
   have hgo : ∀ t' : Int, t ≤ t' → t' ≤ t + 255 → ∃ d : List SE, k1 t' = k d ∧ (∀ f ∈ d, 0 ≤ f.fTime ∧ f.fTime ≤ 20000 ∧ 1 ≤ f.fSize ∧ f.fSize ≤ 72 ∧ f.fVL = vl) ∧ d.Pairwise (fun f g => f.fTime + gap ≤ g.fTime) ∧ d.length ≤ 12 := by
    intro t' h1 h2
    rw [hk1, yn (x := nth _ v) (by omega), y5V hsz.1, yn (x := 1 + _) (by omega), yn (x := t' + gap) (by omega), yn (x := v + 1) (by omega)]
    rw [yj (by simp only [List.length_append, List.length_cons, List.length_nil]; omega)]
    refine y8z hs hw hg n _ (t' + gap) (v + 1) (by omega) (by omega) (by omega) (by simp only [List.length_append, List.length_cons, List.length_nil]; omega) (by omega) (by omega) ?_ ?_
    ·intro f hf
     rcases List.mem_append.1 hf with hf | hf
     ·have := g6 f hf; omega
     ·obtain rfl := List.mem_singleton.1 hf
      exact ⟨by show 0 ≤ t'; omega, by show t' + gap ≤ _; omega, by show 1 ≤ 1 + _ % 72; omega, by show 1 + _ % 72 ≤ 72; omega, rfl⟩
    ·rw [List.pairwise_append]
     refine ⟨g7, by simp, fun f hf g hg' => ?_⟩
     obtain rfl := List.mem_singleton.1 hg'
     have := g6 f hf
     show f.fTime + gap ≤ t'
     omega
   by_cases h3 : v < waits.length
   ·have hwz := hw _ (y2Y g0 h3)
    rw [if_pos (decide_eq_true h3), yj ⟨g0, h3⟩, yn (x := nth waits v) (by omega), yn (x := t + _) (by omega)]
    exact hgo _ (by omega) (by omega)
   ·rw [if_neg (by simpa using h3)]
    exact hgo _ (by omega) (by omega)
  ·rw [if_neg (by simpa using h)]
   exact ⟨o, rfl, fun f hf => by have := g6 f hf; omega, g7, by omega⟩
theorem y9L {sizes waits : List Int} {vl gap : Int} (hs : ∀ x ∈ sizes, 0 ≤ x ∧ x ≤ 255) (hw : ∀ x ∈ waits, 0 ≤ x ∧ x ≤ 255) (hg : 0 ≤ gap ∧ gap ≤ 1000) :
  ∃ d : List SE, y2U sizes waits vl gap = some d ∧ (∀ f ∈ d, 0 ≤ f.fTime ∧ f.fTime ≤ 20000 ∧ 1 ≤ f.fSize ∧ f.fSize ≤ 72 ∧ f.fVL = vl) ∧ d.Pairwise (fun f g => f.fTime + gap ≤ g.fTime) ∧ d.length ≤ 12 := by
 unfold y2U
 refine y1P (P := fun o => ∃ d : List SE, o = some d ∧ (∀ f ∈ d, 0 ≤ f.fTime ∧ f.fTime ≤ 20000 ∧ 1 ≤ f.fSize ∧ f.fSize ≤ 72 ∧ f.fVL = vl) ∧ d.Pairwise (fun f g => f.fTime + gap ≤ g.fTime) ∧ d.length ≤ 12) fun k hk => ?_
 rw [yj (by omega)]
 obtain ⟨d, e, h⟩ := y8z (vl := vl) (k := k) hs hw hg yu [] 0 0 (by omega) (by omega) (by rw [y1C]; omega) rfl (by omega) (by omega) (by simp) .nil
 exact ⟨d, by rw [e, hk], h⟩
theorem y97 {d : List SE} {vl gap : Int} (hg : 0 ≤ gap) (h1 : ∀ f ∈ d, 0 ≤ f.fTime ∧ f.fTime ≤ 20000 ∧ 1 ≤ f.fSize ∧ f.fSize ≤ 72 ∧ f.fVL = vl) (h2 : d.Pairwise (fun f g => f.fTime + gap ≤ g.fTime)) (h3 : d.length ≤ 12) : FRP d := by
 refine ⟨fun q q0 q1 => ?_, by omega⟩
 have := h1 _ (y2Y q0 q1)
 refine ⟨by omega, by omega, by omega, by omega, fun h => ?_⟩
 have := List.pairwise_iff_getElem.1 h2 (q - 1).toNat q.toNat (by omega) (by omega) (by omega)
 rw [y2e (by omega) (by omega), y2e (by omega) (by omega)] at this
 omega
end Go.Proofs.Ytakfmdiiehcbdaa
