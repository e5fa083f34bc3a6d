/- A part of this claim's proof: models of the functions that the law reaches, with the proof that the functions compute them; plain laws about the models. No conditions beyond those in each theorem's statement. -/
import Derived.Test.YtbejngeaocfieaaWTimebaseRange
import Derived.Test.YtbejngeaocfieaaPG
set_option linter.all false
namespace Go.Proofs.Ytbejngeaocfieaa
open Go Go.RowKit Sep
theorem range5 {s : Su} (hs : Vl s) {l : List (List Int)} {r : Int} {q : Nat} {k : List (List Int) → Int → Int → Option Bool} (hq : q ≤ 100) (hl : nth l (i64 (r - 1)) = hist s q) :
    ∀ (m : Nat) (lo hi i : Int), 0 ≤ i → i ≤ s.fStart.length → s.fStart.length - i < m → -1099511627776 ≤ lo → lo ≤ 1099511627776 → -1099511627776 ≤ hi → hi ≤ 1099511627776 →
      (∀ j : Int, 0 ≤ j → j < i → cor s j = true → lo ≤ nth (drf s (hist s q)) j ∧ nth (drf s (hist s q)) j ≤ hi) →
      ∃ lo' hi', m_law34_TimebaseRange_L5 l r s k m lo hi i = k l lo' hi' ∧ -1099511627776 ≤ lo' ∧ lo' ≤ 1099511627776 ∧ -1099511627776 ≤ hi' ∧ hi' ≤ 1099511627776 ∧
        (∀ j : Int, 0 ≤ j → j < s.fStart.length → cor s j = true → lo' ≤ nth (drf s (hist s q)) j ∧ nth (drf s (hist s q)) j ≤ hi') := by
  intro m
  induction m with
  | zero => intro lo hi i; omega
  | succ m ih =>
    intro lo hi i h0 h1 h2 h3 h4 h5 h6 h7
    rw [m_law34_TimebaseRange_L5]
    have hn := hs.n13
    have dl := hs.dl
    have hh := hist_len s q
    rw [hl]
    by_cases hi' : i < s.fStart.length
    · have e := drf_nth (s := s) (c := hist s q) h0 (by omega)
      have hb := drf_bd hs hh (hist_bd hs q) _ (nth_mem (l := drf s (hist s q)) (i := i) h0 (by rw [drf_len]; omega))
      unfold bnd at hb
      rw [e] at hb
      rw [if_pos (by simp; omega)]
      refine (fun H => ?_ : _ → _) ()
      by_cases hc : cor s i = true
      · obtain ⟨lo', hi'', he⟩ := ih (min lo (nth (hist s q) i + nth s.fDrift i)) (max hi (nth (hist s q) i + nth s.fDrift i)) (i + 1) (by omega) (by omega) (by omega) (by omega) (by omega) (by omega) (by omega) (fun j j0 j1 jc => by
          by_cases hj : j = i
          · subst hj; rw [e]; omega
          · have := h7 j j0 (by omega) jc; omega)
        refine ⟨lo', hi'', ?_, he.2⟩
        rw [← he.1]
        refine jp2_use fun k1 hk1 => ?_
        rw [chk_pos ⟨h0, by omega⟩, lcor_eq hs.fl', Option.bind_some, if_pos hc, chk_pos ⟨h0, by omega⟩, hk1, i64_id (x := nth (hist s q) i + nth s.fDrift i) (by omega), i64_id (x := i + 1) (by omega)]
      · obtain ⟨lo', hi'', he⟩ := ih lo hi (i + 1) (by omega) (by omega) (by omega) (by omega) (by omega) (by omega) (by omega) (fun j j0 j1 jc => by
          by_cases hj : j = i
          · subst hj; exact absurd jc hc
          · exact h7 j j0 (by omega) jc)
        refine ⟨lo', hi'', ?_, he.2⟩
        rw [← he.1]
        refine jp2_use fun k1 hk1 => ?_
        rw [chk_pos ⟨h0, by omega⟩, lcor_eq hs.fl', Option.bind_some, if_neg hc, hk1, i64_id (x := i + 1) (by omega)]
    · rw [if_neg (by simp; omega)]
      exact ⟨lo, hi, rfl, h3, h4, h5, h6, fun j j0 j1 => h7 j j0 (by omega)⟩
theorem range6 {s : Su} (hs : Vl s) {l : List (List Int)} {r lo hi : Int} {x : List Int} {k : Option Bool} (hl : nth l r = x) (hx : x.length = s.fStart.length) (hlo : -1099511627776 ≤ lo ∧ lo ≤ 1099511627776) (hhi : -1099511627776 ≤ hi ∧ hi ≤ 1099511627776)
    (h : ∀ j : Int, 0 ≤ j → j < x.length → lo - s.fE ≤ nth x j ∧ nth x j ≤ hi + s.fE) :
    ∀ (m : Nat) (i : Int), 0 ≤ i → i ≤ x.length → x.length - i < m → m_law34_TimebaseRange_L6 l r s lo hi k m i = k := by
  intro m
  induction m with
  | zero => intro i; omega
  | succ m ih =>
    intro i h0 h1 h2
    rw [m_law34_TimebaseRange_L6, hl]
    have hn := hs.n13
    have e0 := hs.e0
    have e1 := hs.e1
    by_cases hi' : i < x.length
    · have := h i h0 hi'
      rw [if_pos (by simpa using hi'), chk_pos ⟨h0, hi'⟩, lcor_eq hs.fl', Option.bind_some, i64_id (x := lo - s.fE) (by omega), i64_id (x := hi + s.fE) (by omega), if_neg (by simp; omega), i64_id (x := i + 1) (by omega)]
      exact ih (i + 1) (by omega) (by omega) (by omega)
    · rw [if_neg (by simpa using hi')]
theorem range4 {s : Su} (hs : Vl s) {rounds : Int} (hr : 0 ≤ rounds ∧ rounds ≤ 30) {k : Option Bool} :
    ∀ (m : Nat) (r : Int), 1 ≤ r → r ≤ rounds + 1 → rounds + 1 - r < m → m_law34_TimebaseRange_L4 s k m (runs s rounds) r = k := by
  intro m
  induction m with
  | zero => intro r; omega
  | succ m ih =>
    intro r h0 h1 h2
    rw [m_law34_TimebaseRange_L4]
    have hlen := runs_len s hr.1
    have hn := hs.n13
    by_cases hi : r < (runs s rounds).length
    · rw [if_pos (by simpa using hi)]
      refine jp1_use fun k1 hk1 => jp3_use fun k2 hk2 => ?_
      have e := i64_id (x := r - 1) (by omega)
      rw [chk_pos (by rw [e]; omega)]
      obtain ⟨lo, hi', he, a1, a2, a3, a4, a5⟩ := range5 hs (l := runs s rounds) (r := r) (q := (r - 1).toNat) (k := k2) (by omega) (by rw [e, runs_nth s (by omega) (by omega)]) FUEL 1099511627776 (-1099511627776) 0 (by omega) (by omega) (by rw [FUEL_eq]; omega) (by omega) (by omega) (by omega) (by omega) (fun j j0 j1 => by omega)
      rw [he, hk2, chk_pos ⟨by omega, hi⟩]
      refine jp0_use fun k3 hk3 => ?_
      have hx : nth (runs s rounds) r = hist s ((r - 1).toNat + 1) := by rw [runs_nth s (by omega) (by omega), show (r - 1).toNat + 1 = r.toNat from by omega]
      have hxl := hist_len s ((r - 1).toNat + 1)
      rw [range6 hs hx hxl ⟨a1, a2⟩ ⟨a3, a4⟩ (fun j j0 j1 => range_law hs _ j0 (by omega) (fun x hx => by
        obtain ⟨j', b0, b1, bc, rfl⟩ := own_mem.1 hx
        rw [drf_len, hist_len] at b1
        exact a5 j' b0 b1 bc)) FUEL 0 (by omega) (by omega) (by rw [FUEL_eq]; omega), hk3, hk1, i64_id (x := r + 1) (by omega)]
      exact ih (r + 1) (by omega) (by omega) (by omega)
    · rw [if_neg (by simpa using hi)]
theorem range_true {s : Su} {n : Int} (hn : 0 ≤ n ∧ n ≤ 255) : m_law34_TimebaseRange s n = some true := by
  unfold m_law34_TimebaseRange
  refine head_eq s _ (by rw [if_pos rfl, awake_true]; rfl) fun hs => ?_
  obtain ⟨e1, e2, e3⟩ := m31 hn
  simp only [Bool.false_eq_true, if_false]
  rw [e1, run_eq, if_pos ⟨hs, by omega, by omega⟩, Option.bind_some]
  dsimp only
  rw [if_neg (by simp)]
  refine jp0_use fun k hk => ?_
  rw [range4 hs ⟨e2, e3⟩ FUEL 1 (by omega) (by omega) (by rw [FUEL_eq]; omega), hk, awake_true]
  rfl
end Go.Proofs.Ytbejngeaocfieaa
