/- A part of this claim's proof: models of functions, walks, plain laws. No conditions. -/
import Derived.Test.YtakfmdiiehcbdaaGreatPZs
namespace Go.Proofs.YtakfmdiiehcbdaaGreat
open Go Go.RowKit Sep
set_option linter.all false
theorem rframes_loop {l : List SE} {k : Option Bool} (hs : (l.length : Int) ≤ 9223372036854775807) : ∀ (n : Nat) (v : Int), 0 ≤ v → v ≤ l.length → l.length < n + v →
  (∃ q : Int, v ≤ q ∧ q < l.length ∧ ¬ FG l q) ∧ m_ref03_Frames_L2 l k n v = some false ∨ (∀ q : Int, v ≤ q → q < l.length → FG l q) ∧ m_ref03_Frames_L2 l k n v = k
 | 0, v, h0, h1, h2 => by omega
 | n + 1, v, h0, h1, h2 => by
  rw [m_ref03_Frames_L2]
  by_cases h : v < l.length
  ·have cv : (0 : Int) ≤ v ∧ v < l.length := ⟨h0, h⟩
   rw [if_pos (decide_eq_true h), chk_pos cv, chk_pos (fun _ => cv), chk_pos (fun _ => cv), chk_pos (fun _ => cv), chk_pos (fun _ h' => by have h' := of_decide_eq_true h'; rw [i64_id (by omega)]; omega), chk_pos (fun _ _ => cv)]
   rw [i64_id (x := v + 1) (by omega)]
   by_cases hg : FG l v
   ·have hc : ¬ (((((decide (((nth l v).fTime) < 0)) || (decide (((nth l v).fTime) > 1073741824))) || (decide (((nth l v).fSize) < 1))) || (decide (((nth l v).fSize) > 72))) || ((decide (v > 0)) && (decide (((nth l (i64 (v - 1))).fTime) > ((nth l v).fTime))))) = true := by
     obtain ⟨g1, g2, g3, g4, g5⟩ := hg
     simp only [Bool.or_eq_true, Bool.and_eq_true, decide_eq_true_eq]
     rintro ((((h | h) | h) | h) | ⟨h, h'⟩)
     ·omega
     ·omega
     ·omega
     ·omega
     ·rw [i64_id (by omega)] at h'
      have := g5 h; omega
    rw [if_neg hc]
    rcases rframes_loop hs n (v + 1) (by omega) (by omega) (by omega) (k := k) with ⟨⟨q, q1, q2, q3⟩, h3⟩ | ⟨h3, h4⟩
    ·exact .inl ⟨⟨q, by omega, q2, q3⟩, h3⟩
    ·refine .inr ⟨fun q q1 q2 => ?_, h4⟩
     by_cases e : q = v
     ·rw [e]; exact hg
     ·exact h3 q (by omega) q2
   ·have hc : (((((decide (((nth l v).fTime) < 0)) || (decide (((nth l v).fTime) > 1073741824))) || (decide (((nth l v).fSize) < 1))) || (decide (((nth l v).fSize) > 72))) || ((decide (v > 0)) && (decide (((nth l (i64 (v - 1))).fTime) > ((nth l v).fTime))))) = true := by
     refine Classical.byContradiction fun hn => hg ?_
     simp only [Bool.or_eq_true, Bool.and_eq_true, decide_eq_true_eq, not_or, not_and] at hn
     obtain ⟨⟨⟨⟨a1, a2⟩, a3⟩, a4⟩, a5⟩ := hn
     refine ⟨by omega, by omega, by omega, by omega, fun h => ?_⟩
     have := a5 h
     rw [i64_id (by omega)] at this
     omega
    rw [if_pos hc]
    exact .inl ⟨⟨v, Int.le_refl _, h, hg⟩, rfl⟩
  ·rw [if_neg (by simpa using h)]
   exact .inr ⟨fun q h1 h2 => by omega, rfl⟩
theorem rframes_eq {l : List SE} (hs : (l.length : Int) ≤ 9223372036854775807) : ∃ r, m_ref03_Frames l = some r ∧ (r = true ↔ FRP l) := by
 unfold m_ref03_Frames
 by_cases hl : (l.length : Int) > 4000
 ·rw [if_pos (decide_eq_true hl)]
  refine ⟨false, rfl, ?_⟩
  simp only [Bool.false_eq_true, false_iff]
  exact fun h => by have := h.2; omega
 ·rw [if_neg (by simpa using hl)]
  refine jp0_ex (P := fun o => ∃ r, o = some r ∧ (r = true ↔ FRP l)) fun k hk => ?_
  rcases rframes_loop (l := l) (k := k) (by omega) FUEL 0 (by omega) (by omega) (by rw [FUEL_eq]; omega) with ⟨⟨q, q1, q2, q3⟩, h3⟩ | ⟨h3, h4⟩
  ·refine ⟨false, h3, ?_⟩
   simp only [Bool.false_eq_true, false_iff]
   exact fun h => q3 (h.1 q q1 q2)
  ·refine ⟨true, h4.trans hk, ?_⟩
   simp only [true_iff]
   exact ⟨h3, by omega⟩
/-! ### Serve -/
theorem rserve_loop {l : List SE} {slow delay : Int} {k : List Int → Option (List Int × Int)} (hl : FRP l) (h1 : 1 ≤ slow ∧ slow ≤ 16) (h2 : 0 ≤ delay ∧ delay ≤ 1000) :
  ∀ (n : Nat) (o : List Int) (e v : Int), 0 ≤ v → v ≤ l.length → l.length < n + v → (o.length : Int) = v → 0 ≤ e → e ≤ 1073742824 + 1152 * v → (0 < v → nth o (v - 1) = e) → (v = 0 → e = 0) → m_ref03_Serve_L2 l slow delay k n o v = k (o ++ SVE slow delay (l.drop v.toNat) e)
 | 0, o, e, v, g0, g1, g2, g3, g4, g5, g6, g7 => by omega
 | n + 1, o, e, v, g0, g1, g2, g3, g4, g5, g6, g7 => by
  rw [m_ref03_Serve_L2]
  have h4 := hl.2
  by_cases h : v < l.length
  ·obtain ⟨f1, f2, f3, f4, _⟩ := hl.1 v g0 h
   have hm := mul_bd ⟨f3, f4⟩ h1
   have i1 : 0 < v → i64 (v - 1) = v - 1 := fun _ => i64_id (by omega)
   rw [if_pos (decide_eq_true h), chk_pos ⟨g0, h⟩]
   refine jp1_ex (P := fun o => o = _) fun k1 hk1 => ?_
   rw [chk_pos (fun h' => by have h' := of_decide_eq_true h'; rw [i1 h']; omega)]
   rw [i64_id (x := (nth l v).fTime + delay) (by omega)]
   have hgo : ∀ b : Int, b = max e ((nth l v).fTime + delay) → k1 b = k (o ++ SVE slow delay (l.drop v.toNat) e) := by
    intro b hb
    rw [hk1, chk_pos ⟨g0, h⟩, i64_id (x := (nth l v).fSize * slow) (by omega), i64_id (x := b + _) (by omega), i64_id (x := v + 1) (by omega)]
    rw [chk_pos (by simp only [List.length_append, List.length_cons, List.length_nil]; omega)]
    rw [rserve_loop hl h1 h2 n (o ++ [b + (nth l v).fSize * slow]) (b + (nth l v).fSize * slow) (v + 1) (by omega) (by omega) (by omega) (by simp only [List.length_append, List.length_cons, List.length_nil]; omega) (by omega) (by omega) (fun _ => ?_) (fun h => by omega), drop_cons g0 h, List.append_assoc, hb]
    ·rfl
    ·rw [show v + 1 - 1 = v by omega, ← nth_lt (by omega) (by simp only [List.length_append, List.length_cons, List.length_nil]; omega)]
     rw [List.getElem_append_right (by omega)]
     simp
   by_cases hv : v > 0
   ·rw [i1 hv, g6 hv]
    by_cases hlt : e > (nth l v).fTime + delay
    ·rw [if_pos (by simp; omega), chk_pos (by omega)]
     exact hgo e (by omega)
    ·rw [if_neg (by simp; omega)]
     exact hgo _ (by omega)
   ·have hv0 : v = 0 := by omega
    have he := g7 hv0
    rw [if_neg (by simp; omega)]
    exact hgo _ (by omega)
  ·rw [if_neg (by simpa using h), drop_end h]
   simp [SVE]
theorem serves_eq {l : List SE} {slow delay : Int} (hs : (l.length : Int) ≤ 9223372036854775807) : ∃ x : List Int × Int, m_calculus_Serve l slow delay = some x ∧ m_ref03_Serve l slow delay = some x ∧ (x.1.length : Int) ≤ 4000 := by
 by_cases h : FRP l ∧ (1 ≤ slow ∧ slow ≤ 16) ∧ 0 ≤ delay ∧ delay ≤ 1000
 ·obtain ⟨hl, h1, h2⟩ := h
  refine ⟨_, serve_eq hl h1 h2, ?_, by rw [SVE_length]; exact hl.2⟩
  obtain ⟨r, e, hr⟩ := rframes_eq hs
  unfold m_ref03_Serve
  rw [e, hr.2 hl, Option.bind_some, if_neg (by simp; omega)]
  refine jp1_ex (P := fun o => o = _) fun k hk => ?_
  rw [rserve_loop hl h1 h2 FUEL [] 0 0 (by omega) (by omega) (by rw [FUEL_eq]; have := hl.2; omega) rfl (by omega) (by omega) (fun h => by omega) (fun _ => rfl), hk, Int.toNat_zero, List.drop_zero, List.nil_append]
 ·obtain ⟨r, e, hr⟩ := rframes_eq hs
  obtain ⟨r', e', hr'⟩ := frames_eq (l := l) hs
  have hc : ∀ b : Bool, (b = true ↔ FRP l) → (((((!b) || (decide (slow < 1))) || (decide (slow > 16))) || (decide (delay < 0))) || (decide (delay > 1000))) = true := by
   intro b hb
   refine Classical.byContradiction fun hn => h ?_
   simp only [Bool.or_eq_true, decide_eq_true_eq, not_or, Bool.not_eq_true'] at hn
   obtain ⟨⟨⟨⟨a1, a2⟩, a3⟩, a4⟩, a5⟩ := hn
   exact ⟨hb.1 (by simpa using a1), by omega, by omega, by omega⟩
  refine ⟨([], 2), ?_, ?_, by simp⟩
  ·unfold m_calculus_Serve
   rw [e', Option.bind_some, if_pos (hc r' hr')]
  ·unfold m_ref03_Serve
   rw [e, Option.bind_some, if_pos (hc r hr)]
end Go.Proofs.YtakfmdiiehcbdaaGreat
