/- A part of this claim's proof: models of functions, walks, plain laws. No conditions. -/
import Derived.Test.YtakfmdiiehcbdaaP03a
import Derived.Test.YtakfmdiiehcbdaaP03w
import Derived.Test.YtakfmdiiehcbdaaWCalculusFifo
namespace Go.Proofs.Ytakfmdiiehcbdaa
open Go Go.RowKit Sep
set_option linter.all false
theorem sve_at {slow delay : Int} {l : List SE} {v : Int} (h0 : 0 ≤ v) (h : v < l.length) : nth (SVE slow delay l 0) v = max (if v = 0 then 0 else nth (SVE slow delay l 0) (v - 1)) ((nth l v).fTime + delay) + (nth l v).fSize * slow := by
 have hl := SVE_length (slow := slow) (delay := delay) l 0
 rw [← nth_lt h0 (by omega), ← nth_lt h0 h, SVE_nth l 0 v.toNat (by omega)]
 by_cases e : v = 0
 ·subst e; simp
 ·rw [if_neg e, if_neg (by omega)]
  congr 2
  rw [← nth_lt (by omega) (by omega)]
  congr 1; omega
theorem sve_bd {slow delay : Int} {l : List SE} (hl : FRP l) (h1 : 1 ≤ slow ∧ slow ≤ 16) (h2 : 0 ≤ delay ∧ delay ≤ 1000) : ∀ (n : Nat), (n : Int) < l.length → 0 ≤ nth (SVE slow delay l 0) n ∧ nth (SVE slow delay l 0) n ≤ 1073742824 + 1152 * (n + 1)
 | 0, h => by
  have := sve_at (slow := slow) (delay := delay) (l := l) (v := 0) (by omega) (by simpa using h)
  obtain ⟨f1, f2, f3, f4, _⟩ := hl.1 0 (by omega) (by simpa using h)
  have hm := mul_bd ⟨f3, f4⟩ h1
  rw [if_pos rfl] at this
  simp only [Int.natCast_zero]
  omega
 | n + 1, h => by
  have ih := sve_bd hl h1 h2 n (by omega)
  have := sve_at (slow := slow) (delay := delay) (l := l) (v := ((n + 1 : Nat) : Int)) (by omega) h
  obtain ⟨f1, f2, f3, f4, _⟩ := hl.1 ((n + 1 : Nat) : Int) (by omega) h
  have hm := mul_bd ⟨f3, f4⟩ h1
  rw [if_neg (by omega), show ((n + 1 : Nat) : Int) - 1 = n by omega] at this
  omega
theorem fifo_loop {l : List SE} {e slow delay : Int} {k : Option Bool} (hl : FRP l) (h1 : 0 ≤ slow ∧ slow ≤ 255) (h2 : 0 ≤ delay ∧ delay ≤ 255) :
  ∀ (n : Nat) (v : Int), 0 ≤ v → v ≤ l.length → l.length < n + v → m_law03_CalculusFifo_L3 l (SVE (1 + slow % 16) delay l 0, e) slow delay k n v = k
 | 0, v, g0, g1, g2 => by omega
 | n + 1, v, g0, g1, g2 => by
  rw [m_law03_CalculusFifo_L3]
  have h4 := hl.2
  have hlen := SVE_length (slow := 1 + slow % 16) (delay := delay) l 0
  by_cases h : v < l.length
  ·rw [if_pos (decide_eq_true h), chk_pos ⟨g0, h⟩]
   simp only []
   rw [i64_id (x := slow) (by omega), tmod_id h1.1, i64_id (x := 1 + slow % 16) (by omega), i64_id (x := delay) (by omega)]
   obtain ⟨f1, f2, f3, f4, _⟩ := hl.1 v g0 h
   have hm := mul_bd ⟨f3, f4⟩ (show 1 ≤ 1 + slow % 16 ∧ 1 + slow % 16 ≤ 16 by omega)
   have hat := sve_at (slow := 1 + slow % 16) (delay := delay) g0 h
   have hbd := sve_bd (slow := 1 + slow % 16) (delay := delay) hl (by omega) (by omega) v.toNat (by omega)
   rw [show ((v.toNat : Nat) : Int) = v by omega] at hbd
   have hb : nth (SVE (1 + slow % 16) delay l 0) v - (nth l v).fSize * (1 + slow % 16) = max (if v = 0 then 0 else nth (SVE (1 + slow % 16) delay l 0) (v - 1)) ((nth l v).fTime + delay) := by omega
   rw [i64_id (x := (nth l v).fSize * _) (by omega), i64_id (x := (nth l v).fTime + delay) (by omega), i64_id (x := nth (SVE (1 + slow % 16) delay l 0) v - _) (by omega), hb]
   have hA : 0 ≤ (nth l v).fTime + delay := by omega
   generalize (nth l v).fTime + delay = A at *
   generalize hE : nth (SVE (1 + slow % 16) delay l 0) (v - 1) = E at *
   have i1 : 0 < v → i64 (v - 1) = v - 1 := fun _ => i64_id (by omega)
   rw [chk_pos (by rw [hlen]; exact ⟨g0, h⟩), chk_pos (fun _ h' => by have h' := of_decide_eq_true h'; rw [i1 h', hlen]; omega), chk_pos (fun _ _ h' => by have h' := of_decide_eq_false h'; rw [i1 (by omega), hlen]; omega)]
   rw [if_neg, i64_id (by omega)]
   ·exact fifo_loop hl h1 h2 n (v + 1) (by omega) (by omega) (by omega)
   ·by_cases e0 : v = 0
    ·subst e0
     simp
     omega
    ·rw [if_neg e0, i1 (by omega), hE]
     simp only [Bool.or_eq_true, Bool.and_eq_true, decide_eq_true_eq, not_or, not_and, e0]
     refine ⟨⟨by omega, fun _ => by omega⟩, fun h5 => ⟨by simp, ?_⟩⟩
     omega
  ·rw [if_neg (by simpa using h)]
theorem calculusFifo_true {sizes waits : List Int} {slow delay : Int} (hs : ∀ x ∈ sizes, 0 ≤ x ∧ x ≤ 255) (hw : ∀ x ∈ waits, 0 ≤ x ∧ x ≤ 255) (h1 : 0 ≤ slow ∧ slow ≤ 255) (h2 : 0 ≤ delay ∧ delay ≤ 255) : m_law03_CalculusFifo sizes waits slow delay = some true := by
 obtain ⟨d, e, g1, g2, g3⟩ := flow_eq (vl := 0) (gap := 0) hs hw (by omega)
 have hF := flow_FRP (by omega) g1 g2 g3
 unfold m_law03_CalculusFifo
 rw [e, Option.bind_some, i64_id (x := slow) (by omega), tmod_id h1.1, i64_id (x := 1 + slow % 16) (by omega), i64_id (x := delay) (by omega)]
 rw [serve_eq hF (by omega) (by omega), Option.bind_some, if_neg (by simp [SVE_length])]
 refine jp0_ex (P := fun o => o = _) fun k hk => ?_
 rw [fifo_loop hF h1 h2 FUEL 0 (by omega) (by omega) (by rw [FUEL_eq]; omega), hk, awake_eq]
 rfl
end Go.Proofs.Ytakfmdiiehcbdaa
