/- A part of this claim's proof: models of the functions that the law reaches, with the proof that the functions compute them; plain laws about the models. No conditions beyond those in each theorem's statement. -/
import Derived.Test.YtkhiiafgikioiaaPSpan
import Derived.Test.YtkhiiafgikioiaaWClockMore
set_option linter.all false
namespace Go.Proofs.Ytkhiiafgikioiaa
open Go Go.RowKit Sep
theorem more_loop {x m : List Int} {k : List Sapi_Span → Int → Int → Option Bool} (hl : (x.length : Int) ≤ 16) (hx : ∀ y ∈ x, -1000 ≤ y ∧ y ≤ 1000) :
    ∀ (n : Nat) (sp : List Sapi_Span) (lo hi i : Int), 0 ≤ i → i ≤ x.length → x.length - i < n → (sp.length : Int) = i → (∀ s ∈ sp, -1000 ≤ s.fLo ∧ s.fLo ≤ s.fHi ∧ s.fHi ≤ 3000) →
      (∀ s ∈ sp, s.fLo ≤ lo ∧ hi ≤ s.fHi) → (∀ z, (∀ s ∈ sp, s.fLo ≤ z) → -1073741824 ≤ z → lo ≤ z) → (∀ z, (∀ s ∈ sp, z ≤ s.fHi) → z ≤ 1073741824 → z ≤ hi) →
      ∃ sp' lo' hi', m_law33_ClockMore_L3 x m k n sp lo hi x i = k sp' lo' hi' ∧ sp'.length = x.length ∧ (∀ s ∈ sp', -1000 ≤ s.fLo ∧ s.fLo ≤ s.fHi ∧ s.fHi ≤ 3000) ∧
        (∀ s ∈ sp', s.fLo ≤ lo' ∧ hi' ≤ s.fHi) ∧ (∀ z, (∀ s ∈ sp', s.fLo ≤ z) → -1073741824 ≤ z → lo' ≤ z) ∧ (∀ z, (∀ s ∈ sp', z ≤ s.fHi) → z ≤ 1073741824 → z ≤ hi') := by
  intro n
  induction n with
  | zero => intro sp lo hi i; omega
  | succ n ih =>
    intro sp lo hi i h0 h1 h2 h3 h4 h5 h6 h7
    rw [m_law33_ClockMore_L3]
    by_cases hi' : i < x.length
    · have hb := hx _ (nth_mem h0 hi')
      rw [if_pos (by simpa using hi'), chk_pos ⟨h0, hi'⟩]
      simp only [jp1]
      have step : ∀ w : Int, 0 ≤ w ∧ w ≤ 1023 → ∃ sp' lo' hi', chk ((((sp ++ [(⟨(nth x i), i64 ((nth x i) + w)⟩ : Sapi_Span)]).length : Nat) : Int) * 16 ≤ 140737488355328 ∧ (((sp ++ [(⟨(nth x i), i64 ((nth x i) + w)⟩ : Sapi_Span)]).length : Nat) : Int) ≤ 4611686018427387904) (m_law33_ClockMore_L3 x m k n (sp ++ [(⟨(nth x i), i64 ((nth x i) + w)⟩ : Sapi_Span)]) (max lo (nth x i)) (min hi (i64 ((nth x i) + w))) x (i64 (i + 1))) = k sp' lo' hi' ∧ sp'.length = x.length ∧ (∀ s ∈ sp', -1000 ≤ s.fLo ∧ s.fLo ≤ s.fHi ∧ s.fHi ≤ 3000) ∧
        (∀ s ∈ sp', s.fLo ≤ lo' ∧ hi' ≤ s.fHi) ∧ (∀ z, (∀ s ∈ sp', s.fLo ≤ z) → -1073741824 ≤ z → lo' ≤ z) ∧ (∀ z, (∀ s ∈ sp', z ≤ s.fHi) → z ≤ 1073741824 → z ≤ hi') := by
        intro w hw
        rw [chk_pos (by simp; omega), i64_id (x := i + 1) (by omega), i64_id (x := nth x i + w) (by omega)]
        refine ih _ _ _ (i + 1) (by omega) (by omega) (by omega) (by simp; omega) ?_ ?_ ?_ ?_
        · intro s hs
          rcases List.mem_append.1 hs with hs | hs
          · exact h4 s hs
          · simp at hs; subst hs; simp only; omega
        · intro s hs
          rcases List.mem_append.1 hs with hs | hs
          · have := h5 s hs; omega
          · simp at hs; subst hs; simp only; omega
        · intro z hz hz0
          have a := h6 z (fun s hs => hz s (List.mem_append_left _ hs)) hz0
          have b := hz _ (List.mem_append_right _ (List.mem_singleton.2 rfl))
          simp only at b; omega
        · intro z hz hz0
          have a := h7 z (fun s hs => hz s (List.mem_append_left _ hs)) hz0
          have b := hz _ (List.mem_append_right _ (List.mem_singleton.2 rfl))
          simp only at b; omega
      by_cases hm : i < m.length
      · rw [if_pos (by simpa using hm), chk_pos ⟨h0, hm⟩]
        exact step _ (and_le (m := 1023) (by omega))
      · rw [if_neg (by simpa using hm)]
        exact step 500 (by omega)
    · rw [if_neg (by simpa using hi')]
      exact ⟨sp, lo, hi, rfl, by omega, h4, h5, h6, h7⟩
theorem al_mono {l : List Sapi_Span} {f g t : Int} (h : f ≤ g) (ha : al l f t = true) : al l g t = true := by
  simp only [al, decide_eq_true_eq] at ha ⊢; omega
theorem more_loop4 {l : List Sapi_Span} {n : Int} {k : Option Bool} (hl : (l.length : Int) ≤ 16) (hf : 0 ≤ Int.tmod (i64 n) 8 ∧ Int.tmod (i64 n) 8 ≤ 7) (ho : 2 * Int.tmod (i64 n) 8 + 1 ≤ l.length) (hs : ∀ s ∈ l, -1000 ≤ s.fLo ∧ s.fLo ≤ s.fHi ∧ s.fHi ≤ 3000) :
    ∀ (m : Nat) (j : Int), 1 ≤ j → 8 - j < m → j ≤ 8 → m_law33_ClockMore_L4 n l k m j = k := by
  intro m
  induction m with
  | zero => intro j; omega
  | succ m ih =>
    intro j h0 h1 h2
    rw [m_law33_ClockMore_L4]
    by_cases hj : j ≤ Int.tmod (i64 n) 8
    · rw [if_pos (by simpa using hj), i64_id (x := j - 1) (by omega), i64_id (x := j + 1) (by omega)]
      obtain ⟨a, ha, ra⟩ := meet_res (l := l) (f := j - 1) (by omega) (by omega) hs
      obtain ⟨b, hb, rb⟩ := meet_res (l := l) (f := j) (by omega) (by omega) hs
      rw [ha, Option.bind_some, hb, Option.bind_some]
      cases ra with
      | none h => rw [if_neg (by simp), ih (j + 1) (by omega) (by omega) (by omega)]
      | some lo hi a1 a2 a3 a4 a5 =>
        cases rb with
        | none h =>
          have := al_mono (g := j) (by omega) a3
          rw [h lo] at this; cases this
        | some lo' hi' b1 b2 b3 b4 b5 =>
          have c1 := b5 lo (al_mono (by omega) a3)
          have c2 := b5 hi (al_mono (by omega) a4)
          rw [if_neg (by simp; omega), ih (j + 1) (by omega) (by omega) (by omega)]
    · rw [if_neg (by simpa using hj)]

theorem clockMore_true {l m : List Int} {n : Int} (hl : (l.length : Int) ≤ 9223372036854775807) (hx : ∀ x ∈ l, -32768 ≤ x ∧ x ≤ 32767) (hn : 0 ≤ n ∧ n ≤ 255) : m_law33_ClockMore l m n = some true := by
  unfold m_law33_ClockMore
  have hf := f8 hn
  obtain ⟨t, ht, ok⟩ := times_eq hf hl hx
  obtain ⟨o1, o2, o3, o4⟩ := ok
  rw [ht, Option.bind_some]
  refine jp3_use fun k hk => ?_
  obtain ⟨sp, lo, hi, he, e1, e2, e3, e4, e5⟩ := more_loop (x := t) (m := m) (k := k)
    o3 o4 FUEL [] (-1073741824) 1073741824 0 (by omega) (by omega) (by rw [FUEL_eq]; omega) rfl (by simp) (by simp) (by intro z _ h; exact h) (by intro z _ h; exact h)
  rw [he, hk]
  simp only [jp0]
  obtain ⟨r, hr, R⟩ := meet_res (l := sp) (f := 0) (by omega) (by omega) e2
  rw [hr, Option.bind_some, more_loop4 (by omega) hf (by omega) e2 FUEL 1 (by omega) (by rw [FUEL_eq]; omega) (by omega), awake_true, Option.bind_some]
  have hall : ∀ t, al sp 0 t = true ↔ ∀ s ∈ sp, s.fLo ≤ t ∧ t ≤ s.fHi := by
    intro t
    simp only [al, decide_eq_true_eq]
    have h1 := List.countP_le_length (p := has t) (l := sp)
    have h2 : sp.countP (has t) = sp.length ↔ ∀ s ∈ sp, has t s = true := List.countP_eq_length
    constructor
    · intro h s hs
      have := h2.1 (by omega) s hs
      simpa [has] using this
    · intro h
      have := h2.2 (fun s hs => by simpa [has] using h s hs)
      omega
  obtain ⟨s0, hs0⟩ := List.exists_mem_of_length_pos (show 0 < sp.length by omega)
  have b0 := e2 s0 hs0
  have c0 := e3 s0 hs0
  have hlo : ∃ s ∈ sp, s.fLo = lo := by
    apply Classical.byContradiction
    intro hn'
    have : ∀ s ∈ sp, s.fLo ≤ lo - 1 := fun s hs => by
      have := (e3 s hs).1
      have h3 : s.fLo ≠ lo := fun e => hn' ⟨s, hs, e⟩
      omega
    have := e4 (lo - 1) this (by omega)
    omega
  have hhi : ∃ s ∈ sp, s.fHi = hi := by
    apply Classical.byContradiction
    intro hn'
    have : ∀ s ∈ sp, hi + 1 ≤ s.fHi := fun s hs => by
      have := (e3 s hs).2
      have h3 : s.fHi ≠ hi := fun e => hn' ⟨s, hs, e⟩
      omega
    have := e5 (hi + 1) this (by omega)
    omega
  cases R with
  | none h =>
    have : ¬ lo ≤ hi := fun hle => by
      have h1 := (hall lo).2 (fun s hs => ⟨(e3 s hs).1, by have := (e3 s hs).2; omega⟩)
      rw [h lo] at h1; cases h1
    rw [if_neg (by simp; omega)]
  | some a b a1 a2 a3 a4 a5 =>
    have f1 := (hall a).1 a3
    have f2 := (hall b).1 a4
    have hla : lo ≤ a := e4 a (fun s hs => (f1 s hs).1) (by have := (f1 s0 hs0).1; omega)
    have hah : a ≤ hi := e5 a (fun s hs => (f1 s hs).2) (by have := (f1 s0 hs0).2; omega)
    have hle : lo ≤ hi := by omega
    have g1 := a5 lo ((hall lo).2 (fun s hs => ⟨(e3 s hs).1, by have := (e3 s hs).2; omega⟩))
    have g2 := a5 hi ((hall hi).2 (fun s hs => ⟨by have := (e3 s hs).1; omega, (e3 s hs).2⟩))
    have hbh : b ≤ hi := e5 b (fun s hs => (f2 s hs).2) (by have := (f2 s0 hs0).2; omega)
    rw [if_neg (by simp; omega)]
end Go.Proofs.Ytkhiiafgikioiaa
