/- A part of this claim's proof: models of the functions that the law reaches, with the proof that the functions compute them; plain laws about the models. No conditions beyond those in each theorem's statement. -/
import Derived.Test.YtkhiiafgikioiaaPTrue
import Derived.Test.YtkhiiafgikioiaaP3
set_option linter.all false
namespace Go.Proofs.Ytkhiiafgikioiaa
open Go Go.RowKit Sep
theorem and_le {x : Int} {m : Nat} (hm : m < 9223372036854775808) : 0 ≤ bits .and .i64 x (m : Int) ∧ bits .and .i64 x (m : Int) ≤ m := by
  have h1 : (BitVec.ofInt 64 (m : Int)).toNat = m := by simp; omega
  have h2 : (BitVec.ofInt 64 x &&& BitVec.ofInt 64 (m : Int)).toNat ≤ m := by
    rw [BitVec.toNat_and, h1]; exact Nat.and_le_right
  change 0 ≤ IntKind.wrap .i64 ((BitVec.ofInt 64 x &&& BitVec.ofInt 64 (m : Int)).toNat : Int) ∧ IntKind.wrap .i64 ((BitVec.ofInt 64 x &&& BitVec.ofInt 64 (m : Int)).toNat : Int) ≤ m
  generalize (BitVec.ofInt 64 x &&& BitVec.ofInt 64 (m : Int)).toNat = q at h2 ⊢
  rw [w64 (by omega)]
  omega
/-- spans of times: what the laws make -/
def SpansOk (n : Nat) (l : List Sapi_Span) : Prop := l.length = n ∧ ∀ s ∈ l, -1000 ≤ s.fLo ∧ s.fLo ≤ s.fHi ∧ s.fHi ≤ 3000
theorem allowed_lo {l : List Sapi_Span} {f t : Int} (hf : f < l.length) (h : al l f t = true) : ∃ s ∈ l, s.fLo ≤ t ∧ al l f s.fLo = true := by
  simp only [al, decide_eq_true_eq] at h
  have hne : l.filter (has t) ≠ [] := by
    intro e
    rw [List.countP_eq_length_filter, e] at h
    simp at h; omega
  have hmax : ∀ (l : List Sapi_Span), l ≠ [] → ∃ s ∈ l, ∀ x ∈ l, x.fLo ≤ s.fLo := by
    intro l
    induction l with
    | nil => intro h; exact absurd rfl h
    | cons x l ih =>
      intro _
      by_cases hl : l = []
      · subst hl; exact ⟨x, by simp, by simp⟩
      · obtain ⟨s, hs, hm⟩ := ih hl
        rcases Int.le_total s.fLo x.fLo with h | h
        · refine ⟨x, by simp, fun z hz => ?_⟩
          rcases List.mem_cons.1 hz with rfl | hz
          · exact Int.le_refl _
          · exact Int.le_trans (hm z hz) h
        · refine ⟨s, List.mem_cons_of_mem _ hs, fun z hz => ?_⟩
          rcases List.mem_cons.1 hz with rfl | hz
          · exact h
          · exact hm z hz
  obtain ⟨s, hs, hm⟩ := hmax _ hne
  obtain ⟨h1, h2⟩ := List.mem_filter.1 hs
  simp only [has, decide_eq_true_eq] at h2
  refine ⟨s, h1, h2.1, ?_⟩
  simp only [al, decide_eq_true_eq]
  have : l.countP (has t) ≤ l.countP (has s.fLo) := List.countP_mono_left fun x hx hp => by
    have h3 := hm x (List.mem_filter.2 ⟨hx, hp⟩)
    simp only [has, decide_eq_true_eq] at hp ⊢
    omega
  omega
theorem los_mem {l : List Sapi_Span} {f t : Int} : t ∈ los l f ↔ ∃ s ∈ l, s.fLo = t ∧ al l f t = true := by
  unfold los
  rw [List.mem_filter, (isort_perm _).mem_iff, List.mem_map]
  constructor
  · rintro ⟨⟨s, hs, rfl⟩, h⟩; exact ⟨s, hs, rfl, h⟩
  · rintro ⟨s, hs, rfl, h⟩; exact ⟨⟨s, hs, rfl⟩, h⟩
theorem his_mem {l : List Sapi_Span} {f t : Int} : t ∈ his l f ↔ ∃ s ∈ l, s.fHi = t ∧ al l f t = true := by
  unfold his
  rw [List.mem_filter, (isort_perm _).mem_iff, List.mem_map]
  constructor
  · rintro ⟨⟨s, hs, rfl⟩, h⟩; exact ⟨s, hs, rfl, h⟩
  · rintro ⟨s, hs, rfl, h⟩; exact ⟨⟨s, hs, rfl⟩, h⟩
/-- the result of Meet, as it is said: nobody is allowed, or the least and the greatest allowed ends -/
inductive MeetR (l : List Sapi_Span) (f : Int) : Sapi_Span × Int → Prop
  | none (h : ∀ t, al l f t = false) : MeetR l f (⟨0, 0⟩, 6)
  | some (lo hi : Int) (h1 : ∃ s ∈ l, s.fLo = lo) (h2 : ∃ s ∈ l, s.fHi = hi) (h3 : al l f lo = true) (h4 : al l f hi = true) (h5 : ∀ t, al l f t = true → lo ≤ t ∧ t ≤ hi) : MeetR l f (⟨lo, hi⟩, 0)
theorem meet_res {l : List Sapi_Span} {f : Int} (hl : (l.length : Int) ≤ 1000000) (hok : okN l.length f) (hs : ∀ s ∈ l, -1000 ≤ s.fLo ∧ s.fLo ≤ s.fHi ∧ s.fHi ≤ 3000) : ∃ r, m_clock_Meet l f = some r ∧ MeetR l f r := by
  have hok' : meetOk l f = true := by
    unfold meetOk
    rw [Bool.and_eq_true, decide_eq_true_eq, List.all_eq_true]
    exact ⟨hok, fun s h => by have := hs s h; simp [okS, inT]; omega⟩
  rw [meet_eq hl, if_pos hok']
  by_cases h0 : (los l f).length = 0
  · rw [if_pos h0]
    refine ⟨_, rfl, .none fun t => ?_⟩
    cases ht : al l f t with
    | false => rfl
    | true =>
      obtain ⟨s, h1, _, h2⟩ := allowed_lo (by omega) ht
      have := los_mem.2 ⟨s, h1, rfl, h2⟩
      rw [List.eq_nil_of_length_eq_zero h0] at this; simp at this
  · rw [if_neg h0]
    have hh := sorted_head (l := l.map (·.fLo)) (p := al l f) (show 0 < ((isort (l.map (·.fLo))).filter (al l f)).length from Nat.pos_of_ne_zero h0)
    obtain ⟨s3, hs3, _, ha3⟩ := allowed_hi (by omega) hh.2.1
    have h2 : 0 < ((isort (l.map (·.fHi))).filter (al l f)).length := List.length_pos_of_mem (a := s3.fHi) (his_mem.2 ⟨s3, hs3, rfl, ha3⟩)
    have ht := sorted_last h2
    change nth (los l f) 0 ∈ _ ∧ al l f (nth (los l f) 0) = true ∧ (∀ y ∈ _, al l f y = true → nth (los l f) 0 ≤ y) at hh
    change nth (his l f) ((his l f).length - 1) ∈ _ ∧ al l f (nth (his l f) ((his l f).length - 1)) = true ∧ (∀ y ∈ _, al l f y = true → y ≤ nth (his l f) ((his l f).length - 1)) at ht
    obtain ⟨g1, g2, g3⟩ := hh
    obtain ⟨t1, t2, t3⟩ := ht
    refine ⟨_, rfl, .some _ _ (List.mem_map.1 g1) (List.mem_map.1 t1) g2 t2 fun t hta => ?_⟩
    obtain ⟨a, ha, hle, haa⟩ := allowed_lo (by omega) hta
    obtain ⟨b, hb, hle', hbb⟩ := allowed_hi (by omega) hta
    have := g3 _ (List.mem_map.2 ⟨a, ha, rfl⟩) haa
    have := t3 _ (List.mem_map.2 ⟨b, hb, rfl⟩) hbb
    omega
end Go.Proofs.Ytkhiiafgikioiaa
