/- A part of this claim's proof: models of functions, walks, plain laws. No conditions. -/
import Derived.Test.YtakfmdiiehcbdaaGreatPZr
namespace Go.Proofs.YtakfmdiiehcbdaaGreat
open Go Go.RowKit Sep
set_option linter.all false
theorem jp0_ex {R : Type} {K : Option R} {F : Option R → Option R} {P : Option R → Prop} (h : ∀ k : Option R, k = K → P (F k)) : P (jp0 K F) := h K rfl
abbrev SE := Sapi_Sent
def FG (l : List SE) (q : Int) : Prop := 0 ≤ (nth l q).fTime ∧ (nth l q).fTime ≤ 1073741824 ∧ 1 ≤ (nth l q).fSize ∧ (nth l q).fSize ≤ 72 ∧ (0 < q → (nth l (q - 1)).fTime ≤ (nth l q).fTime)
instance (l : List SE) (q : Int) : Decidable (FG l q) := inferInstanceAs (Decidable (_ ∧ _))
theorem frames_loop {l : List SE} {k : Option Bool} (hs : (l.length : Int) ≤ 9223372036854775807) : ∀ (n : Nat) (v : Int), 0 ≤ v → v ≤ l.length → l.length < n + v →
  (∃ q : Int, v ≤ q ∧ q < l.length ∧ ¬ FG l q) ∧ m_calculus_frames_L2 l k n v = some false ∨ (∀ q : Int, v ≤ q → q < l.length → FG l q) ∧ m_calculus_frames_L2 l k n v = k
 | 0, v, h0, h1, h2 => by omega
 | n + 1, v, h0, h1, h2 => by
  rw [m_calculus_frames_L2]
  by_cases h : v < l.length
  ·rw [if_pos (decide_eq_true h), chk_pos ⟨h0, h⟩, chk_pos (fun _ h' => by have h' := of_decide_eq_true h'; rw [i64_id (by omega)]; omega)]
   rw [i64_id (x := v + 1) (by omega)]
   by_cases hg : FG l v
   ·have hc : ¬ (((((decide (((nth l v).fTime) < 0)) || (decide (((nth l v).fTime) > 1073741824))) || (decide (((nth l v).fSize) < 1))) || (decide (((nth l v).fSize) > 72))) || ((decide (v > 0)) && (decide (((nth l (i64 (v - 1))).fTime) > ((nth l v).fTime))))) = true := by
     obtain ⟨g1, g2, g3, g4, g5⟩ := hg
     simp only [Bool.or_eq_true, Bool.and_eq_true, decide_eq_true_eq]
     rintro ((((h | h) | h) | h) | ⟨h, h'⟩)
     ·omega
     ·omega
     ·omega
     ·omega
     ·rw [i64_id (by omega)] at h'
      have := g5 h; omega
    rw [if_neg hc]
    rcases frames_loop hs n (v + 1) (by omega) (by omega) (by omega) (k := k) with ⟨⟨q, q1, q2, q3⟩, h3⟩ | ⟨h3, h4⟩
    ·exact .inl ⟨⟨q, by omega, q2, q3⟩, h3⟩
    ·refine .inr ⟨fun q q1 q2 => ?_, h4⟩
     by_cases e : q = v
     ·rw [e]; exact hg
     ·exact h3 q (by omega) q2
   ·have hc : (((((decide (((nth l v).fTime) < 0)) || (decide (((nth l v).fTime) > 1073741824))) || (decide (((nth l v).fSize) < 1))) || (decide (((nth l v).fSize) > 72))) || ((decide (v > 0)) && (decide (((nth l (i64 (v - 1))).fTime) > ((nth l v).fTime))))) = true := by
     refine Classical.byContradiction fun hn => hg ?_
     simp only [Bool.or_eq_true, Bool.and_eq_true, decide_eq_true_eq, not_or, not_and] at hn
     obtain ⟨⟨⟨⟨a1, a2⟩, a3⟩, a4⟩, a5⟩ := hn
     refine ⟨by omega, by omega, by omega, by omega, fun h => ?_⟩
     have := a5 h
     rw [i64_id (by omega)] at this
     omega
    rw [if_pos hc]
    exact .inl ⟨⟨v, Int.le_refl _, h, hg⟩, rfl⟩
  ·rw [if_neg (by simpa using h)]
   exact .inr ⟨fun q h1 h2 => by omega, rfl⟩
def FRP (l : List SE) : Prop := (∀ q : Int, 0 ≤ q → q < l.length → FG l q) ∧ (l.length : Int) ≤ 4000
theorem frames_eq {l : List SE} (hs : (l.length : Int) ≤ 9223372036854775807) : ∃ r, m_calculus_frames l = some r ∧ (r = true ↔ FRP l) := by
 unfold m_calculus_frames
 refine jp0_ex (P := fun o => ∃ r, o = some r ∧ (r = true ↔ FRP l)) fun k hk => ?_
 rcases frames_loop (l := l) (k := k) (by omega) FUEL 0 (by omega) (by omega) (by rw [FUEL_eq]; omega) with ⟨⟨q, q1, q2, q3⟩, h3⟩ | ⟨h3, h4⟩
 ·refine ⟨false, h3, ?_⟩
  simp only [Bool.false_eq_true, false_iff]
  exact fun h => q3 (h.1 q q1 q2)
 ·refine ⟨_, h4.trans hk, ?_⟩
  rw [decide_eq_true_eq]
  exact ⟨fun h => ⟨h3, h⟩, fun h => h.2⟩
theorem frames_ok {l : List SE} (h : FRP l) : m_calculus_frames l = some true := by
 obtain ⟨r, e, hr⟩ := frames_eq (l := l) (by have := h.2; omega)
 rw [e, hr.2 h]
/-! ### Serve -/
def SVE (slow delay : Int) : List SE → Int → List Int
 | [], _ => []
 | f :: l, e => (max e (f.fTime + delay) + f.fSize * slow) :: SVE slow delay l (max e (f.fTime + delay) + f.fSize * slow)
theorem SVE_length {slow delay : Int} : ∀ (l : List SE) (e : Int), (SVE slow delay l e).length = l.length
 | [], e => rfl
 | f :: l, e => by simp [SVE, SVE_length l]
theorem mul_bd {a b : Int} (ha : 1 ≤ a ∧ a ≤ 72) (hb : 1 ≤ b ∧ b ≤ 16) : 1 ≤ a * b ∧ a * b ≤ 1152 := by
 constructor
 ·exact Int.le_trans (by omega) (Int.mul_le_mul ha.1 hb.1 (by omega) (by omega))
 ·exact Int.le_trans (Int.mul_le_mul ha.2 hb.2 (by omega) (by omega)) (by omega)
theorem serve_loop {l : List SE} {slow delay : Int} {k : List Int → Option (List Int × Int)} (hl : FRP l) (h1 : 1 ≤ slow ∧ slow ≤ 16) (h2 : 0 ≤ delay ∧ delay ≤ 1000) :
  ∀ (n : Nat) (o : List Int) (e v : Int), 0 ≤ v → v ≤ l.length → l.length < n + v → (o.length : Int) = v → 0 ≤ e → e ≤ 1073742824 + 1152 * v → m_calculus_Serve_L2 l delay slow k n o e v = k (o ++ SVE slow delay (l.drop v.toNat) e)
 | 0, o, e, v, g0, g1, g2, g3, g4, g5 => by omega
 | n + 1, o, e, v, g0, g1, g2, g3, g4, g5 => by
  rw [m_calculus_Serve_L2]
  have h4 := hl.2
  by_cases h : v < l.length
  ·obtain ⟨f1, f2, f3, f4, _⟩ := hl.1 v g0 h
   have hm := mul_bd ⟨f3, f4⟩ h1
   rw [if_pos (decide_eq_true h), chk_pos ⟨g0, h⟩, i64_id (x := (nth l v).fTime + delay) (by omega), i64_id (x := (nth l v).fSize * slow) (by omega), i64_id (x := max e _ + _) (by omega), i64_id (x := v + 1) (by omega)]
   rw [chk_pos (by simp only [List.length_append, List.length_cons, List.length_nil]; omega)]
   rw [serve_loop hl h1 h2 n _ _ (v + 1) (by omega) (by omega) (by omega) (by simp only [List.length_append, List.length_cons, List.length_nil]; omega) (by omega) (by omega), drop_cons g0 h, List.append_assoc]
   rfl
  ·rw [if_neg (by simpa using h), drop_end h]
   simp [SVE]
theorem serve_eq {l : List SE} {slow delay : Int} (hl : FRP l) (h1 : 1 ≤ slow ∧ slow ≤ 16) (h2 : 0 ≤ delay ∧ delay ≤ 1000) : m_calculus_Serve l slow delay = some (SVE slow delay l 0, 0) := by
 unfold m_calculus_Serve
 rw [frames_ok hl, Option.bind_some, if_neg (by simp; omega)]
 refine jp1_ex (P := fun o => o = _) fun k hk => ?_
 rw [serve_loop hl h1 h2 FUEL [] 0 0 (by omega) (by omega) (by rw [FUEL_eq]; have := hl.2; omega) rfl (by omega) (by omega), hk, Int.toNat_zero, List.drop_zero, List.nil_append]
end Go.Proofs.YtakfmdiiehcbdaaGreat
