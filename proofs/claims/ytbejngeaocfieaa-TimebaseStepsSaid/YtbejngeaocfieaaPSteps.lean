/- A part of this claim's proof: models of the functions that the law reaches, with the proof that the functions compute them; plain laws about the models. No conditions beyond those in each theorem's statement. -/
import Derived.Test.YtbejngeaocfieaaWTimebaseSteps
import Derived.Test.YtbejngeaocfieaaPG
set_option linter.all false
namespace Go.Proofs.Ytbejngeaocfieaa
open Go Go.RowKit Sep
theorem runs_take (s : Su) {n : Int} (h : 0 ≤ n) : (runs s (n + 1)).take (n + 1).toNat = runs s n := by
  unfold runs
  rw [← List.map_take, List.take_range]
  congr 2
  omega
theorem runs_take1 (s : Su) {n : Int} (h : 0 ≤ n) : (runs s n).take (1 : Int).toNat = [s.fStart] := by
  unfold runs
  rw [← List.map_take, List.take_range, show min (1 : Int).toNat (n.toNat + 1) = 1 from by omega]
  rfl
theorem runs_mid (s : Su) {n i : Int} (h0 : 0 ≤ i) (h1 : i < n) : ((runs s n).take (i + 2).toNat).drop (i + 1).toNat = [hist s (i.toNat + 1)] := by
  unfold runs
  rw [← List.map_take, List.take_range, ← List.map_drop, show min (i + 2).toNat (n.toNat + 1) = (i + 1).toNat + 1 from by omega, List.range_succ, List.drop_append_of_le_length (by simp), List.drop_of_length_le (by simp), List.nil_append, show (i + 1).toNat = i.toNat + 1 from by omega]
  rfl
theorem steps4 {s : Su} (hs : Vl s) {x : List (List Int) × Int} {v : Int} {q : Nat} {k : List Int → Option Bool} (hq : q ≤ 100) (hx : nth x.1 v = hist s q) :
    ∀ (m : Nat) (i : Int), 0 ≤ i → i ≤ s.fStart.length → s.fStart.length - i < m →
      m_law34_TimebaseSteps_L4 x v s k m ((rng 0 i.toNat).map (fun i => nth (hist s q) i + nth s.fDrift i) ++ (hist s q).drop i.toNat) i = k (drf s (hist s q)) := by
  intro m
  have hn := hs.n13
  have dl := hs.dl
  have hh := hist_len s q
  induction m with
  | zero => intro i; omega
  | succ m ih =>
    intro i h0 h1 h2
    rw [m_law34_TimebaseSteps_L4, hx, List.nil_append]
    by_cases hi : i < (hist s q).length
    · have h3 := hist_bd hs q _ (nth_mem h0 hi)
      have h4 := hs.dr _ (nth_mem (l := s.fDrift) (i := i) h0 (by omega))
      unfold bnd at h3
      have sa := set_app ((rng 0 i.toNat).map (fun i => nth (hist s q) i + nth s.fDrift i)) ((hist s q).drop (i + 1).toNat) (nth (hist s q) i) (nth (hist s q) i + nth s.fDrift i) (i := i) (by simp [rng_len]; omega)
      rw [drop_cons h0 hi, if_pos (by simpa using hi), chk_pos ⟨h0, by simp [rng_len]; omega⟩, chk_pos ⟨h0, by omega⟩, sa.2, i64_id (x := i + 1) (by omega), i64_id (by omega), sa.1]
      have := ih (i + 1) (by omega) (by omega) (by omega)
      rw [show (i + 1).toNat = i.toNat + 1 from by omega, rng_snoc, show (0 : Int) + (i.toNat : Int) = i from by omega, List.map_append, List.append_assoc] at this
      rw [show (i + 1).toNat = i.toNat + 1 from by omega]
      exact this
    · have e : i = (hist s q).length := by omega
      subst e
      rw [if_neg (by simp)]
      simp [drf]
theorem drf_fit {s : Su} (hs : Vl s) {q : Nat} (hq : q ≤ 101) : fit s (drf s (hist s q)) := by
  refine ⟨hs, by rw [drf_len, hist_len], wi_iff.2 fun x hx => ?_⟩
  have := drf_bd hs (hist_len s q) (hist_bd hs q) x hx
  unfold bnd at this
  omega
theorem steps3 {s : Su} (hs : Vl s) {n rounds : Int} (hn : i64 (Int.tmod n 31) = rounds) (hr : 0 ≤ rounds ∧ rounds ≤ 30) {k : Option Bool} :
    ∀ (m : Nat) (i : Int), 0 ≤ i → i ≤ rounds + 1 → rounds + 1 - i < m → m_law34_TimebaseSteps_L3 n (runs s (rounds + 1), 0) s k m i = k := by
  intro m
  have n13 := hs.n13
  induction m with
  | zero => intro i; omega
  | succ m ih =>
    intro i h0 h1 h2
    rw [m_law34_TimebaseSteps_L3, hn, i64_id (x := rounds + 1) (by omega)]
    have hlen := runs_len s (rounds := rounds + 1) (by omega)
    dsimp only
    by_cases hi : i < rounds + 1
    · have hh := hist_len s i.toNat
      have hx : nth (runs s (rounds + 1)) i = hist s i.toNat := runs_nth s h0 (by omega)
      rw [if_pos (by simpa using hi)]
      refine jp0_use fun k1 hk1 => ?_
      rw [hx, List.nil_append, chk_pos (by omega), chk_pos (by omega)]
      refine jp1_use fun k2 hk2 => ?_
      have := steps4 hs (x := (runs s (rounds + 1), 0)) (v := i) (q := i.toNat) (k := k2) (by omega) hx FUEL 0 (by omega) (by omega) (by rw [FUEL_eq]; omega)
      simp only [Int.toNat_zero, List.drop_zero, rng, List.range_zero, List.map_nil, List.nil_append] at this
      have hrr := hist_ok hs (r := i.toNat) (by omega)
      rw [show ((i.toNat : Nat) : Int) = i from by omega] at hrr
      have hl2 := hist_len s (i.toNat + 1)
      rw [this, hk2, Reads_eq (by rw [drf_len]; omega), if_pos ⟨drf_fit hs (by omega), by omega⟩, Option.bind_some]
      dsimp only
      rw [round_eq (by rw [rds_len, drf_len]; omega) (fun x hx => by rw [rds_lens x hx, drf_len]; omega), Option.bind_some, hrr]
      dsimp only
      rw [if_neg (by simp), i64_id (x := i + 1) (by omega), i64_id (x := i + 2) (by omega), chk_pos (by omega), lists_eq (by simp) (fun x hx => by rw [List.mem_singleton.1 hx]; omega), runs_mid s h0 (by omega), Option.bind_some, decide_eq_true rfl, Option.bind_some, if_neg (by simp), hk1, i64_id (x := i + 1) (by omega)]
      exact ih (i + 1) (by omega) (by omega) (by omega)
    · rw [if_neg (by simpa using hi)]
theorem steps_true {s : Su} {n : Int} (hn : 0 ≤ n ∧ n ≤ 255) : m_law34_TimebaseSteps s n = some true := by
  unfold m_law34_TimebaseSteps
  refine head_eq s _ (by rw [if_pos rfl, awake_true]; rfl) fun hs => ?_
  obtain ⟨e1, e2, e3⟩ := m31 hn
  have n13 := hs.n13
  have l1 := runs_len s e2
  have l2 := runs_len s (rounds := Int.tmod n 31 + 1) (by omega)
  simp only [Bool.false_eq_true, if_false]
  rw [e1, i64_id (x := Int.tmod n 31 + 1) (by omega), i64_id (x := Int.tmod n 31 + 2) (by omega), run_eq, if_pos ⟨hs, by omega, by omega⟩, Option.bind_some, run_eq, if_pos ⟨hs, by omega, by omega⟩, Option.bind_some]
  dsimp only
  have hrow : ∀ x ∈ runs s (Int.tmod n 31), (x.length : Int) ≤ 1000000 := by
    intro x hx
    unfold runs at hx
    obtain ⟨j, _, rfl⟩ := List.mem_map.1 hx
    rw [hist_len]; omega
  rw [if_neg (by simp; omega), chk_pos (by omega), runs_take s e2, lists_eq (by omega) hrow, Option.bind_some, decide_eq_true rfl, Option.bind_some]
  simp only [Bool.not_true, Bool.false_eq_true, if_false]
  rw [chk_pos (by omega), runs_take1 s e2, lists_eq (by simp) (fun x hx => by rw [List.mem_singleton.1 hx]; omega), Option.bind_some, decide_eq_true rfl, Option.bind_some]
  simp only [Bool.not_true, Bool.false_eq_true, if_false]
  refine jp0_use fun k hk => ?_
  rw [steps3 hs e1 ⟨e2, e3⟩ FUEL 0 (by omega) (by omega) (by rw [FUEL_eq]; omega), hk, awake_true]
  rfl
end Go.Proofs.Ytbejngeaocfieaa
