/- A part of this claim's proof: models of the functions that the law reaches, with the proof that the functions compute them; plain laws about the models. No conditions beyond those in each theorem's statement. -/
import Derived.Test.YtbejngeaocfieaaWTimebaseHalves
import Derived.Test.YtbejngeaocfieaaPF
set_option linter.all false
namespace Go.Proofs.Ytbejngeaocfieaa
open Go Go.RowKit Sep
theorem runs_len (s : Su) {rounds : Int} (h : 0 ≤ rounds) : ((runs s rounds).length : Int) = rounds + 1 := by
  unfold runs; rw [List.length_map, List.length_range]; omega
theorem runs_nth (s : Su) {rounds i : Int} (h0 : 0 ≤ i) (h1 : i ≤ rounds) : nth (runs s rounds) i = hist s i.toNat := by
  have h := nth_lt (l := runs s rounds) h0 (by rw [runs_len s (by omega)]; omega)
  rw [← h]
  unfold runs
  simp
theorem m31 {n : Int} (hn : 0 ≤ n ∧ n ≤ 255) : i64 (Int.tmod n 31) = Int.tmod n 31 ∧ 0 ≤ Int.tmod n 31 ∧ Int.tmod n 31 ≤ 30 := by
  have h1 := Int.tmod_nonneg 31 hn.1
  have h2 := Int.tmod_lt_of_pos n (show (0 : Int) < 31 by decide)
  exact ⟨i64_id (by omega), h1, by omega⟩
theorem halves_loop {s : Su} (hs : Vl s) {rounds : Int} (hr : 0 ≤ rounds ∧ rounds ≤ 30) {k : Option Bool} :
    ∀ (m : Nat) (last i : Int), 0 ≤ i → i ≤ rounds + 1 → rounds + 1 - i < m → (0 < i → last = spr s (hist s (i - 1).toNat)) → (i = 0 → last = 0) →
      m_law34_TimebaseHalves_L2 (runs s rounds, 0) s (bound s, 0) k m last (runs s rounds) i = k := by
  intro m
  induction m with
  | zero => intro last i; omega
  | succ m ih =>
    intro last i h0 h1 h2 h3 h4
    rw [m_law34_TimebaseHalves_L2]
    have hlen := runs_len s hr.1
    dsimp only
    by_cases hi : i < (runs s rounds).length
    · have hl := hist_len s i.toNat
      have hn := hs.n13
      rw [if_pos (by simpa using hi), chk_pos ⟨h0, hi⟩, runs_nth s h0 (by omega), skew_eq (by omega), if_pos (fit_hist hs (by omega)), Option.bind_some]
      dsimp only
      have hb := bound_bd hs
      have hcond : (((decide ((0 : Int) ≠ 0)) || ((decide (i > 0)) && (decide (spr s (hist s i.toNat) > (i64 (Int.tdiv (i64 (last + bound s)) 2)))))) || (((decide (i > 0)) && (decide (last ≤ bound s))) && (decide (spr s (hist s i.toNat) > bound s)))) = false := by
        by_cases hp : 0 < i
        · have hla := h3 hp
          have hh := halves hs (i - 1).toNat
          rw [show (i - 1).toNat + 1 = i.toNat from by omega, ← hla] at hh
          have hsb := spr_hist hs (r := (i - 1).toNat)
          rw [← hla] at hsb
          unfold bnd at hsb
          rw [i64_id (x := last + bound s) (by omega), tdivp (by omega), i64_id (by omega)]
          simp
          omega
        · simp [hp]
      rw [hcond]
      simp only [Bool.false_eq_true, if_false]
      rw [i64_id (x := i + 1) (by omega)]
      exact ih _ (i + 1) (by omega) (by omega) (by omega) (fun _ => by rw [show i + 1 - 1 = i from by omega]) (fun h => by omega)
    · rw [if_neg (by simpa using hi)]
theorem halves_true {s : Su} {n : Int} (hn : 0 ≤ n ∧ n ≤ 255) : m_law34_TimebaseHalves s n = some true := by
  unfold m_law34_TimebaseHalves
  refine head_eq s _ (by rw [if_pos rfl, awake_true]; rfl) fun hs => ?_
  obtain ⟨e1, e2, e3⟩ := m31 hn
  have hl := runs_len s e2
  simp only [Bool.false_eq_true, if_false]
  rw [e1, run_eq, if_pos ⟨hs, by omega, by omega⟩, Option.bind_some, bound_eq, if_pos hs, Option.bind_some, i64_id (x := Int.tmod n 31 + 1) (by omega)]
  dsimp only
  rw [if_neg (by simp; omega)]
  refine jp0_use fun k hk => ?_
  rw [halves_loop hs ⟨e2, e3⟩ FUEL 0 0 (by omega) (by omega) (by rw [FUEL_eq]; omega) (by omega) (by omega), hk, awake_true]
  rfl
end Go.Proofs.Ytbejngeaocfieaa
