/- A part of this claim's proof: models of the functions that the law reaches, with the proof that the functions compute them; plain laws about the models. No conditions beyond those in each theorem's statement. -/
import Derived.Test.YtbejngeaocfieaaPC
set_option linter.all false
namespace Go.Proofs.Ytbejngeaocfieaa
open Go Go.RowKit Sep
/-! ### Round -/
def rndOk (l : List (List Int)) (f : Int) : Bool := l.all (midOk · f)
theorem round_loop {l : List (List Int)} {f : Int} {k : List Int → Option (List Int × Int)} (hl : (l.length : Int) ≤ 1000000) (hr : ∀ x ∈ l, (x.length : Int) ≤ 1000000) :
    ∀ (m : Nat) (out : List Int) (i : Int), 0 ≤ i → i ≤ l.length → l.length - i < m → (out.length : Int) = i →
      m_timebase_Round_L2 l f k m out i = if rndOk (l.drop i.toNat) f = true then k (out ++ (l.drop i.toNat).map (mid · f)) else some ([], 2) := by
  intro m
  induction m with
  | zero => intro out i; omega
  | succ m ih =>
    intro out i h0 h1 h2 h3
    rw [m_timebase_Round_L2]
    by_cases hi : i < l.length
    · rw [if_pos (by simpa using hi), chk_pos ⟨h0, hi⟩, midpoint_eq (hr _ (nth_mem h0 hi)), Option.bind_some, drop_cons h0 hi]
      unfold rndOk
      rw [List.all_cons]
      by_cases he : midOk (nth l i) f = true
      · rw [if_pos he, if_neg (by simp), chk_pos (by simp; omega), step64 h0 hi (by omega), ih _ (i + 1) (by omega) (by omega) (by omega) (by simp; omega), he, Bool.true_and]
        unfold rndOk
        simp
      · rw [if_neg he, if_pos (by simp), if_neg (by simp [he])]
    · rw [if_neg (by simpa using hi), drop_end hi]; simp [rndOk]
theorem rround_loop {l : List (List Int)} {f : Int} {k : List Int → Option (List Int × Int)} (hl : (l.length : Int) ≤ 1000000) (hr : ∀ x ∈ l, (x.length : Int) ≤ 1000000) :
    ∀ (m : Nat) (out : List Int) (i : Int), 0 ≤ i → i ≤ l.length → l.length - i < m → (out.length : Int) = i →
      m_ref34_Round_L2 l f k m out i = if rndOk (l.drop i.toNat) f = true then k (out ++ (l.drop i.toNat).map (mid · f)) else some ([], 2) := by
  intro m
  induction m with
  | zero => intro out i; omega
  | succ m ih =>
    intro out i h0 h1 h2 h3
    rw [m_ref34_Round_L2]
    by_cases hi : i < l.length
    · rw [if_pos (by simpa using hi), chk_pos ⟨h0, hi⟩, rmidpoint_eq (hr _ (nth_mem h0 hi)), Option.bind_some, drop_cons h0 hi]
      unfold rndOk
      rw [List.all_cons]
      by_cases he : midOk (nth l i) f = true
      · rw [if_pos he, if_neg (by simp), chk_pos (by simp; omega), step64 h0 hi (by omega), ih _ (i + 1) (by omega) (by omega) (by omega) (by simp; omega), he, Bool.true_and]
        unfold rndOk
        simp
      · rw [if_neg he, if_pos (by simp), if_neg (by simp [he])]
    · rw [if_neg (by simpa using hi), drop_end hi]; simp [rndOk]
def rndV (l : List (List Int)) (f : Int) : List Int × Int := if rndOk l f = true ∧ l ≠ [] then (l.map (mid · f), 0) else ([], 2)
theorem round_eq {l : List (List Int)} {f : Int} (hl : (l.length : Int) ≤ 1000000) (hr : ∀ x ∈ l, (x.length : Int) ≤ 1000000) : m_timebase_Round l f = some (rndV l f) := by
  unfold m_timebase_Round rndV
  refine jp1_use fun k hk => ?_
  rw [round_loop hl hr FUEL [] 0 (by omega) (by omega) (by rw [FUEL_eq]; omega) rfl, hk]
  simp only [Int.toNat_zero, List.drop_zero, List.nil_append, List.length_map]
  by_cases h1 : rndOk l f = true
  · rw [if_pos h1]
    by_cases h2 : l = []
    · subst h2; simp
    · rw [if_neg (by simpa using h2), if_pos ⟨h1, h2⟩]
  · rw [if_neg h1, if_neg (fun h => h1 h.1)]
theorem rround_eq {l : List (List Int)} {f : Int} (hl : (l.length : Int) ≤ 1000000) (hr : ∀ x ∈ l, (x.length : Int) ≤ 1000000) : m_ref34_Round l f = some (rndV l f) := by
  unfold m_ref34_Round rndV
  refine jp1_use fun k hk => ?_
  rw [rround_loop hl hr FUEL [] 0 (by omega) (by omega) (by rw [FUEL_eq]; omega) rfl, hk]
  simp only [Int.toNat_zero, List.drop_zero, List.nil_append, List.length_map]
  by_cases h1 : rndOk l f = true
  · rw [if_pos h1]
    by_cases h2 : l = []
    · subst h2; simp
    · rw [if_neg (by simpa using h2), if_pos ⟨h1, h2⟩]
  · rw [if_neg h1, if_neg (fun h => h1 h.1)]

/-! ### a run -/
def drf (s : Su) (c : List Int) : List Int := (rng 0 c.length).map fun i => nth c i + nth s.fDrift i
def hist (s : Su) : Nat → List Int
  | 0 => s.fStart
  | r + 1 => (rds s (drf s (hist s r)) r).map (mid · s.fF)
theorem drf_len (s : Su) (c : List Int) : (drf s c).length = c.length := by simp [drf, rng_len]
theorem rds_len (s : Su) (c : List Int) (r : Int) : (rds s c r).length = c.length := by simp [rds, rng_len]
theorem rrow_len (s : Su) (c : List Int) (r i : Int) : (rrow s c r i).length = c.length := by simp [rrow, rng_len]
theorem hist_len (s : Su) : ∀ r, (hist s r).length = s.fStart.length
  | 0 => rfl
  | r + 1 => by rw [hist, List.length_map, rds_len, drf_len, hist_len s r]
def bnd (r : Nat) : Int := 1048576 + r * 1050000
theorem mid_abs {t : List Int} {f B : Int} (hok : okN t.length f) (hb : ∀ y ∈ t, -B ≤ y ∧ y ≤ B) : -B ≤ mid t f ∧ mid t f ≤ B :=
  mid_between hok (by
    have : bad (-B) B t = 0 := by
      unfold bad; rw [List.countP_eq_zero]; intro y hy; simp; exact hb y hy
    rw [this]; have := hok.2.2.1; omega)
section
variable {s : Su}
theorem drf_bd (hs : Vl s) {c : List Int} {B : Int} (hl : c.length = s.fStart.length) (hc : ∀ x ∈ c, -B ≤ x ∧ x ≤ B) : ∀ x ∈ drf s c, -(B + 1000) ≤ x ∧ x ≤ B + 1000 := by
  intro x hx
  obtain ⟨i, hi, rfl⟩ := List.mem_map.1 hx
  rw [rng_mem] at hi
  have h1 := hc _ (nth_mem (l := c) (i := i) hi.1 (by omega))
  have h2 := hs.dr _ (nth_mem (l := s.fDrift) (i := i) hi.1 (by have := hs.dl; omega))
  omega
theorem row_bd (hs : Vl s) {c : List Int} {B r i : Int} (hr : 0 ≤ r) (hi : 0 ≤ i) (hc : ∀ x ∈ c, -B ≤ x ∧ x ≤ B) : ∀ x ∈ rrow s c r i, -(B + 1048576) ≤ x ∧ x ≤ B + 1048576 := by
  intro x hx
  obtain ⟨j, hj, rfl⟩ := List.mem_map.1 hx
  rw [rng_mem] at hj
  have h1 := hc _ (nth_mem (l := c) (i := j) hj.1 (by omega))
  unfold rd
  split
  · omega
  · have h0 : 0 ≤ (r * c.length + i) * c.length + j := Int.add_nonneg (Int.mul_nonneg (Int.add_nonneg (Int.mul_nonneg hr (by omega)) hi) (by omega)) hj.1
    have e0 := hs.e0
    have e1 := hs.e1
    split
    · have := cyc_bd (l := s.fErrs) h0 (B := 1048576) (by omega) (fun x hx => by have := hs.er x hx; omega)
      omega
    · have := cyc_bd (l := s.fLies) h0 (B := 1048576) (by omega) (fun x hx => by have := hs.li x hx; omega)
      omega
theorem okN_row (hs : Vl s) : okN s.fStart.length s.fF := by have := hs.n1; have := hs.n13; have := hs.f0; have := hs.f3; omega
theorem hist_bd (hs : Vl s) : ∀ r : Nat, ∀ x ∈ hist s r, -bnd r ≤ x ∧ x ≤ bnd r
  | 0 => fun x hx => by have := hs.st x hx; unfold bnd; omega
  | r + 1 => fun x hx => by
    rw [hist] at hx
    obtain ⟨row, hrow, rfl⟩ := List.mem_map.1 hx
    obtain ⟨i, hi, rfl⟩ := List.mem_map.1 hrow
    rw [rng_mem] at hi
    have h1 := drf_bd hs (hist_len s r) (hist_bd hs r)
    have h2 := row_bd hs (r := r) (i := i) (by omega) hi.1 h1
    have h3 := mid_abs (f := s.fF) (by rw [rrow_len, drf_len, hist_len]; exact okN_row hs) h2
    unfold bnd at h3 ⊢
    push_cast
    omega
theorem hist_rd (hs : Vl s) {r : Nat} (hr : r ≤ 101) : Rd s (drf s (hist s r)) r := by
  have h1 := drf_bd hs (hist_len s r) (hist_bd hs r)
  have e0 := hs.e0
  have e1 := hs.e1
  refine ⟨by rw [drf_len, hist_len]; exact hs.n13, fun x hx => ?_, by omega, by omega, by have := hs.fl; have := hs.f3; have := hs.n13; omega, fun x hx => by have := hs.er x hx; omega, hs.li⟩
  have := h1 x hx
  unfold bnd at this
  omega
theorem hist_ok (hs : Vl s) {r : Nat} (hr : r ≤ 101) : rndV (rds s (drf s (hist s r)) r) s.fF = (hist s (r + 1), 0) := by
  unfold rndV
  rw [if_pos]
  · rfl
  · constructor
    · unfold rndOk
      rw [List.all_eq_true]
      intro row hrow
      obtain ⟨i, hi, rfl⟩ := List.mem_map.1 hrow
      rw [rng_mem] at hi
      unfold midOk
      rw [Bool.and_eq_true, decide_eq_true_eq, List.all_eq_true, rrow_len, drf_len, hist_len]
      refine ⟨okN_row hs, fun x hx => ?_⟩
      have h1 := drf_bd hs (hist_len s r) (hist_bd hs r)
      have h2 := row_bd hs (r := r) (i := i) (by omega) hi.1 h1 x hx
      unfold bnd at h2
      simp [inT]
      omega
    · intro h
      have h2 := rds_len s (drf s (hist s r)) r
      rw [h, drf_len, hist_len, List.length_nil] at h2
      have h1 := hs.n1
      omega
theorem rds_lens {c : List Int} {r : Int} : ∀ x ∈ rds s c r, x.length = c.length := by
  intro x hx
  obtain ⟨i, hi, rfl⟩ := List.mem_map.1 hx
  exact rrow_len _ _ _ _

theorem drift_loop {Sg : Type} {c : Stimebase_plan} {now0 : List Int} {k : List Int → Option Sg} (hn : (now0.length : Int) ≤ 1000000) (hd : c.fSetup.fDrift.length = now0.length) (hb : ∀ x ∈ now0, -500000000 ≤ x ∧ x ≤ 500000000) (hdr : ∀ x ∈ c.fSetup.fDrift, -1000 ≤ x ∧ x ≤ 1000) :
    ∀ (m : Nat) (i : Int), 0 ≤ i → i ≤ now0.length → now0.length - i < m →
      m_timebase_plan_history_1_L4 Sg now0 c k m ((rng 0 i.toNat).map (fun i => nth now0 i + nth c.fSetup.fDrift i) ++ now0.drop i.toNat) i = k (drf c.fSetup now0) := by
  intro m
  induction m with
  | zero => intro i; omega
  | succ m ih =>
    intro i h0 h1 h2
    rw [m_timebase_plan_history_1_L4]
    by_cases hi : i < now0.length
    · have h3 := hb _ (nth_mem h0 hi)
      have h4 := hdr _ (nth_mem (l := c.fSetup.fDrift) (i := i) h0 (by omega))
      have sa := set_app ((rng 0 i.toNat).map (fun i => nth now0 i + nth c.fSetup.fDrift i)) (now0.drop (i + 1).toNat) (nth now0 i) (nth now0 i + nth c.fSetup.fDrift i) (i := i) (by simp [rng_len]; omega)
      rw [drop_cons h0 hi, if_pos (by simpa using hi), chk_pos ⟨h0, by simp [rng_len]; omega⟩, chk_pos ⟨h0, by omega⟩, sa.2, i64_id (x := i + 1) (by omega), i64_id (by omega), sa.1]
      have := ih (i + 1) (by omega) (by omega) (by omega)
      rw [show (i + 1).toNat = i.toNat + 1 from by omega, rng_snoc, show (0 : Int) + (i.toNat : Int) = i from by omega, List.map_append, List.append_assoc] at this
      rw [show (i + 1).toNat = i.toNat + 1 from by omega]
      exact this
    · have e : i = now0.length := by omega
      subst e
      rw [if_neg (by simp)]
      simp [drf]
theorem hist_loop (hs : Vl s) {rounds : Int} {k : Nat × List (List Int) → Option (Nat × List (List Int))} (hr : 0 ≤ rounds ∧ rounds ≤ 100) :
    ∀ (m : Nat) (r : Nat), (r : Int) ≤ rounds → rounds - r < m →
      m_timebase_plan_history_1_L3 (Nat × List (List Int)) (fun (x : List Int) (s : Nat × List (List Int)) => chk (s.1 = 0) (m_timebase_Run_R4 rounds x s.2)) ⟨s⟩ k m (hist s r) r (0, (List.range r).map (hist s)) = k (1, (List.range (rounds.toNat + 1)).map (hist s)) := by
  intro m
  induction m with
  | zero => intro r; omega
  | succ m ih =>
    intro r h0 h1
    rw [m_timebase_plan_history_1_L3]
    have hn := hs.n13
    have hl := hist_len s r
    have hb := hist_bd hs r
    unfold m_slices_Clone_int_intV
    rw [chk_pos (by omega), Option.bind_some, chk_pos rfl]
    unfold m_timebase_Run_R4
    have e2 : (List.range r).map (hist s) ++ [hist s r] = (List.range (r + 1)).map (hist s) := by rw [List.range_succ, List.map_append]; rfl
    rw [e2]
    simp only [List.length_map, List.length_range]
    rw [chk_pos (by omega)]
    by_cases hlt : ((r + 1 : Nat) : Int) > rounds
    · rw [if_pos (by simpa using hlt), Option.bind_some, if_neg (by simp)]
      have : rounds.toNat = r := by omega
      rw [this]
    · rw [if_neg (by simpa using hlt), Option.bind_some, if_pos rfl]
      refine jp1_use fun k1 hk1 => jp1_use fun k2 hk2 => ?_
      have hrd := hist_rd hs (r := r) (by omega)
      have hok := hist_ok hs (r := r) (by omega)
      have := drift_loop (Sg := Nat × List (List Int)) (c := ⟨s⟩) (now0 := hist s r) (k := k2) (by omega) (by have := hs.dl; dsimp only; omega) (fun x hx => by have := hb x hx; unfold bnd at this; omega) hs.dr FUEL 0 (by omega) (by omega) (by rw [FUEL_eq]; omega)
      simp only [Int.toNat_zero, List.drop_zero, rng, List.range_zero, List.map_nil, List.nil_append] at this
      rw [this, hk2]
      rw [reads_eq hrd, Option.bind_some, round_eq (by rw [rds_len, drf_len]; omega) (fun x hx => by rw [rds_lens x hx, drf_len]; omega), Option.bind_some, hok, hk1]
      rw [show i64 ((r : Int) + 1) = ((r + 1 : Nat) : Int) from by rw [i64_id (by omega)]; push_cast; rfl]
      exact ih (r + 1) (by omega) (by push_cast; omega)
end
/-- what Run answers for a valid setup -/
def runs (s : Su) (rounds : Int) : List (List Int) := (List.range (rounds.toNat + 1)).map (hist s)
open Classical in
theorem run_eq (s : Su) (rounds : Int) : m_timebase_Run s rounds = some (if Vl s ∧ 0 ≤ rounds ∧ rounds ≤ 100 then (runs s rounds, 0) else ([], 2)) := by
  unfold m_timebase_Run
  rw [valid_eq, Option.bind_some]
  by_cases hv : Vl s
  · rw [decide_eq_true (vld_iff.2 hv)]
    by_cases hr : 0 ≤ rounds ∧ rounds ≤ 100
    · rw [if_neg (by simp; omega), if_pos ⟨hv, hr⟩]
      refine jp1_use fun k hk => ?_
      unfold m_timebase_plan_history
      rw [Option.bind_some]
      unfold m_timebase_plan_history_1
      have hn := hv.n13
      rw [show m_slices_Clone_int_intV (⟨s⟩ : Stimebase_plan).fSetup.fStart = some s.fStart from by unfold m_slices_Clone_int_intV; rw [chk_pos (by dsimp only; omega)], Option.bind_some]
      rw [show (jp1 (fun (s_12442 : Nat × List (List Int)) => some s_12442) fun k_12445 => m_timebase_plan_history_1_L3 (Nat × List (List Int)) (fun (x : List Int) (s : Nat × List (List Int)) => chk (s.1 = 0) (m_timebase_Run_R4 rounds x s.2)) ⟨s⟩ k_12445 FUEL s.fStart 0 (0, [])) = some (1, runs s rounds) from by
        refine jp1_use fun k2 hk2 => ?_
        have := hist_loop hv hr (k := k2) FUEL 0 (by omega) (by rw [FUEL_eq]; omega)
        rw [hk2] at this
        exact this]
      rw [Option.bind_some, if_neg (by simp), if_pos rfl, hk]
    · rw [if_pos (by simp; omega), if_neg (fun h => hr h.2)]
  · rw [decide_eq_false (fun h => hv (vld_iff.1 h)), if_pos (by simp), if_neg (fun h => hv h.1)]
end Go.Proofs.Ytbejngeaocfieaa
