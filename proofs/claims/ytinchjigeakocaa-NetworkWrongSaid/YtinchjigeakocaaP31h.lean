/- A part of this claim's proof: models of functions, walks, plain laws. No conditions. -/
import Derived.Test.YtinchjigeakocaaP31g
import Derived.Test.YtinchjigeakocaaP31v
namespace Go.Proofs.Ytinchjigeakocaa
open Go Go.RowKit Sep
set_option linter.all false
theorem y4p : y14 = some true := by kernel_rfl
/-! ### few, fine, the same -/
structure FewP (c : Cf) (rs : List (List Hop)) (sent : List Snt) : Prop where
 m : c.fModules.length ≤ 8
 s : c.fSwitches.length ≤ 8
 l : c.fLinks.length ≤ 20
 v : c.fVLs.length ≤ 20
 r : rs.length ≤ 20
 f : ¬ (sent.length > 40 ∧ sent.length ≤ 4000)
 e : ∀ r ∈ rs, r.length ≤ 40
theorem FewP.small {c : Cf} {rs : List (List Hop)} {sent : List Snt} (h : FewP c rs sent) : Small c := ⟨by have := h.m; omega, by have := h.s; omega, by have := h.l; omega, by have := h.v; omega⟩
theorem y7K {rs : List (List Hop)} {k : Option Bool} (hl : rs.length ≤ 20) : ∀ (n : Nat) (v : Int), 0 ≤ v → v ≤ rs.length → rs.length < n + v →
  y2n rs k n v = if ∀ r ∈ rs.drop v.toNat, r.length ≤ 40 then k else some false
 | 0, v, h0, h1, h2 => by omega
 | n + 1, v, h0, h1, h2 => by
  rw [y2n]
  by_cases h : v < rs.length
  ·rw [if_pos (decide_eq_true h), y18 ⟨h0, h⟩, drop_nth h0 h]
   by_cases hr : (((nth rs v).length : Nat) : Int) > 40
   ·rw [if_pos (decide_eq_true hr), if_neg]
    intro hc; have := hc (nth rs v) (by simp); omega
   ·rw [if_neg (by simpa using hr), y2t (x := v + 1) (by omega), y7K hl n (v + 1) (by omega) (by omega) (by omega), show (v + 1).toNat = v.toNat + 1 by omega]
    by_cases hq : ∀ r ∈ rs.drop (v.toNat + 1), r.length ≤ 40
    ·rw [if_pos hq, if_pos]
     intro r hr'
     rcases List.mem_cons.1 hr' with rfl | hr'
     ·omega
     ·exact hq r hr'
    ·rw [if_neg hq, if_neg]
     exact fun hc => hq fun r hr' => hc r (List.mem_cons_of_mem _ hr')
  ·rw [if_neg (by simpa using h), if_pos]
   rw [List.drop_eq_nil_of_le (by omega)]; simp
theorem Few_eq (c : Cf) (rs : List (List Hop)) (sent : List Snt) : ∃ b, y43 c rs sent = some b ∧ (b = true ↔ FewP c rs sent) := by
 unfold y43
 by_cases h : c.fModules.length ≤ 8 ∧ c.fSwitches.length ≤ 8 ∧ c.fLinks.length ≤ 20 ∧ c.fVLs.length ≤ 20 ∧ rs.length ≤ 20 ∧ ¬ (sent.length > 40 ∧ sent.length ≤ 4000)
 ·obtain ⟨h1, h2, h3, h4, h5, h6⟩ := h
  rw [if_neg (by simp only [Bool.or_eq_true, Bool.and_eq_true, decide_eq_true_eq]; omega)]
  refine y5z (P := fun o => ∃ b, o = some b ∧ (b = true ↔ FewP c rs sent)) fun k hk => ?_
  rw [y7K h5 yP 0 (by omega) (by omega) (by rw [y4I]; omega), hk]
  simp only [Int.toNat_zero, List.drop_zero]
  by_cases hq : ∀ r ∈ rs, r.length ≤ 40
  ·rw [if_pos hq]; exact ⟨true, rfl, by simp; exact ⟨h1, h2, h3, h4, h5, h6, hq⟩⟩
  ·rw [if_neg hq]; exact ⟨false, rfl, by simp; exact fun hc => hq hc.e⟩
 ·rw [if_pos (by simp only [Bool.or_eq_true, Bool.and_eq_true, decide_eq_true_eq]; omega)]
  refine ⟨false, rfl, by simp; exact fun hc => h ⟨hc.m, hc.s, hc.l, hc.v, hc.r, hc.f⟩⟩
theorem lfine_eq {c : Cf} {net : Int} {rs : List (List Hop)} {sent : List Snt} (hs : (sent.length : Int) ≤ 9223372036854775807) : ∃ b, y3R c net rs sent = some b ∧ (b = true ↔ FewP c rs sent ∧ Sg c net rs sent) := by
 unfold y3R
 obtain ⟨b1, q1, q2⟩ := Few_eq c rs sent
 rw [q1]
 simp only [Option.bind_some]
 cases b1 with
 | false =>
  refine ⟨false, rfl, ?_⟩
  simp only [Bool.false_eq_true, false_iff] at q2 ⊢
  exact fun h => q2 h.1
 | true =>
  have hf := q2.1 rfl
  obtain ⟨b2, r1, r2⟩ := y6B hf.small (net := net) (rs := rs) (fun r hr => by have := hf.e r hr; omega) (by have := hf.r; omega)
  rw [if_pos rfl, r1]
  simp only [Option.bind_some]
  cases b2 with
  | false =>
   refine ⟨false, rfl, ?_⟩
   simp only [Bool.false_eq_true, false_iff] at r2 ⊢
   exact fun h => r2 h.2.va
  | true =>
   obtain ⟨b3, s1, s2⟩ := y8g (c := c) hs
   rw [if_pos rfl, s1]
   refine ⟨b3, rfl, ?_⟩
   rw [s2]
   exact ⟨fun h => ⟨hf, hf.small, r2.1 rfl, h⟩, fun h => h.2.fr⟩
section
variable {c : Cf} {net : Int} {rs : List (List Hop)} {sent : List Snt}
structure RunsTo (c : Cf) (rs : List (List Hop)) (sent : List Snt) (come lost : List Cm) : Prop where
 run : ∃ n F, Runs c rs sent n (init c rs sent) F ∧ come.Perm F.come ∧ lost.Perm F.lost
 sc : Srt clt come
 sl : Srt clt lost
 len : come.length + lost.length ≤ 1280
end
end Go.Proofs.Ytinchjigeakocaa
