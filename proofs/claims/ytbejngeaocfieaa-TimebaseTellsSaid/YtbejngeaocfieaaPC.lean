/- A part of this claim's proof: models of the functions that the law reaches, with the proof that the functions compute them; plain laws about the models. No conditions beyond those in each theorem's statement. -/
import Derived.Test.YtbejngeaocfieaaPB
set_option linter.all false
namespace Go.Proofs.Ytbejngeaocfieaa
open Go Go.RowKit Sep
/-! ### whole numbers in a row -/
def rng (a : Int) (m : Nat) : List Int := (List.range m).map fun q : Nat => a + q
theorem rng_len (a : Int) (m : Nat) : (rng a m).length = m := by simp [rng]
theorem rng_cons (a : Int) (m : Nat) : rng a (m + 1) = a :: rng (a + 1) m := by
  unfold rng
  rw [List.range_succ_eq_map]
  simp only [List.map_cons, List.map_map, Int.natCast_zero, Int.add_zero, List.cons.injEq, true_and]
  exact List.map_congr_left fun q _ => by simp only [Function.comp]; omega
theorem rng_snoc (a : Int) (m : Nat) : rng a (m + 1) = rng a m ++ [a + m] := by
  unfold rng; rw [List.range_succ, List.map_append]; rfl
theorem rng_mem {a x : Int} {m : Nat} : x ∈ rng a m ↔ a ≤ x ∧ x < a + m := by
  unfold rng
  simp only [List.mem_map, List.mem_range]
  exact ⟨fun ⟨q, h, e⟩ => by omega, fun h => ⟨(x - a).toNat, by omega, by omega⟩⟩
theorem rng_nth {β : Type} [Inhabited β] {f : Int → β} {m : Nat} {i : Int} (h0 : 0 ≤ i) (h1 : i < m) : nth ((rng 0 m).map f) i = f i := by
  have h := nth_lt (l := (rng 0 m).map f) h0 (by rw [List.length_map, rng_len]; exact h1)
  rw [← h]
  simp only [rng, List.getElem_map, List.getElem_range]
  congr 1; omega
theorem rng_from {i : Int} {n : Nat} (h0 : 0 ≤ i) (h : i < n) : rng i (n - i).toNat = i :: rng (i + 1) (n - (i + 1)).toNat := by
  rw [show ((n : Int) - i).toNat = (n - (i + 1)).toNat + 1 from by omega, rng_cons]
theorem rng_end {i : Int} {n : Nat} (h : ¬ i < n) : rng i (n - i).toNat = [] := by
  rw [show ((n : Int) - i).toNat = 0 from by omega]; rfl

/-! ### Reads -/
def cyc (l : List Int) (k : Int) : Int := if (l.length : Int) = 0 then 0 else nth l (Int.tmod k l.length)
theorem cyclic_eq {l : List Int} {k : Int} (hk : 0 ≤ k) : m_timebase_cyclic l k = some (cyc l k) := by
  unfold m_timebase_cyclic cyc
  by_cases h : (l.length : Int) = 0
  · rw [if_pos (by simpa using h), if_pos h]
  · rw [if_neg (by simpa using h), if_neg h, chk_pos h]
    have h1 := Int.tmod_nonneg l.length hk
    have h2 := Int.tmod_lt_of_pos k (show 0 < (l.length : Int) by omega)
    rw [chk_pos ⟨h1, h2⟩]
theorem cyc_bd {l : List Int} {k B : Int} (hk : 0 ≤ k) (hB : 0 ≤ B) (h : ∀ x ∈ l, -B ≤ x ∧ x ≤ B) : -B ≤ cyc l k ∧ cyc l k ≤ B := by
  unfold cyc
  by_cases hz : (l.length : Int) = 0
  · rw [if_pos hz]; omega
  · rw [if_neg hz]; exact h _ (nth_mem (Int.tmod_nonneg l.length hk) (Int.tmod_lt_of_pos k (show 0 < (l.length : Int) from by omega)))
def rd (s : Su) (c : List Int) (r i j : Int) : Int := if i = j then nth c j else nth c j + cyc (if cor s j = true then s.fErrs else s.fLies) ((r * c.length + i) * c.length + j)
def rrow (s : Su) (c : List Int) (r i : Int) : List Int := (rng 0 c.length).map (rd s c r i)
def rds (s : Su) (c : List Int) (r : Int) : List (List Int) := (rng 0 c.length).map (rrow s c r)
/-- what Reads may be asked -/
structure Rd (s : Su) (c : List Int) (r : Int) : Prop where
  n : (c.length : Int) ≤ 13
  c : ∀ x ∈ c, -500000000 ≤ x ∧ x ≤ 500000000
  r0 : 0 ≤ r
  r1 : r ≤ 1000
  f : (s.fFaulty.length : Int) ≤ 1000000
  e : ∀ x ∈ s.fErrs, -1048576 ≤ x ∧ x ≤ 1048576
  l : ∀ x ∈ s.fLies, -1048576 ≤ x ∧ x ≤ 1048576
section
variable {s : Su} {c : List Int} {r : Int}
theorem Rd.ix (h : Rd s c r) {i j : Int} (hi : 0 ≤ i ∧ i < c.length) (hj : 0 ≤ j ∧ j < c.length) :
    i64 (i64 (i64 (i64 (r * c.length) + i) * c.length) + j) = (r * c.length + i) * c.length + j ∧ 0 ≤ (r * c.length + i) * c.length + j := by
  have hn := h.n
  have h1 : 0 ≤ r * c.length := Int.mul_nonneg h.r0 (by omega)
  have h2 : r * c.length ≤ 1000 * 13 := Int.mul_le_mul h.r1 hn (by omega) (by omega)
  have h3 : 0 ≤ (r * c.length + i) * c.length := Int.mul_nonneg (by omega) (by omega)
  have h4 : (r * c.length + i) * c.length ≤ 13013 * 13 := Int.mul_le_mul (by omega) hn (by omega) (by omega)
  rw [i64_id (x := r * c.length) (by omega), i64_id (x := r * c.length + i) (by omega), i64_id (x := (r * c.length + i) * c.length) (by omega), i64_id (by omega)]
  omega
theorem Rd.rix (h : Rd s c r) {i j : Int} (hi : 0 ≤ i ∧ i < c.length) (hj : 0 ≤ j ∧ j < c.length) :
    i64 (i64 (i64 (i64 (r * c.length) * c.length) + i64 (i * c.length)) + j) = (r * c.length + i) * c.length + j := by
  have hn := h.n
  have h1 : 0 ≤ r * c.length := Int.mul_nonneg h.r0 (by omega)
  have h2 : r * c.length ≤ 1000 * 13 := Int.mul_le_mul h.r1 hn (by omega) (by omega)
  have h3 : 0 ≤ r * c.length * c.length := Int.mul_nonneg h1 (by omega)
  have h4 : r * c.length * c.length ≤ 13000 * 13 := Int.mul_le_mul h2 hn (by omega) (by omega)
  have h5 : 0 ≤ i * (c.length : Int) := Int.mul_nonneg hi.1 (by omega)
  have h6 : i * (c.length : Int) ≤ 13 * 13 := Int.mul_le_mul (by omega) hn (by omega) (by omega)
  have h7 := Int.add_mul (r * c.length) i c.length
  rw [i64_id (x := r * c.length) (by omega), i64_id (x := r * c.length * c.length) (by omega), i64_id (x := i * (c.length : Int)) (by omega), i64_id (x := r * c.length * c.length + i * c.length) (by omega), i64_id (by omega)]
  omega
theorem Rd.cb (h : Rd s c r) {i j : Int} (hi : 0 ≤ i ∧ i < c.length) (hj : 0 ≤ j ∧ j < c.length) : -500000000 ≤ nth c j ∧ nth c j ≤ 500000000 ∧
    (-1048576 ≤ cyc s.fErrs ((r * c.length + i) * c.length + j) ∧ cyc s.fErrs ((r * c.length + i) * c.length + j) ≤ 1048576) ∧ (-1048576 ≤ cyc s.fLies ((r * c.length + i) * c.length + j) ∧ cyc s.fLies ((r * c.length + i) * c.length + j) ≤ 1048576) := by
  have h1 := h.c _ (nth_mem hj.1 hj.2)
  have h2 := (h.ix hi hj).2
  exact ⟨h1.1, h1.2, cyc_bd h2 (by omega) h.e, cyc_bd h2 (by omega) h.l⟩
theorem set_app {β : Type} [Inhabited β] (A B : List β) (z X : β) {i : Int} (h : (A.length : Int) = i) : (A ++ z :: B).set i.toNat X = A ++ X :: B ∧ nth (A ++ z :: B) i = z := by
  have e : i.toNat = A.length := by omega
  constructor
  · rw [e, List.set_append_right _ _ (Nat.le_refl _)]; simp
  · have h2 := nth_lt (l := A ++ z :: B) (i := i) (by omega) (by simp; omega)
    rw [← h2]; simp [e]
theorem nth_set {β : Type} [Inhabited β] {l : List β} {i : Int} {x : β} (h0 : 0 ≤ i) (h1 : i < l.length) : nth (l.set i.toNat x) i = x := by
  have h := nth_lt (l := l.set i.toNat x) h0 (by simpa using h1)
  rw [← h]; simp
theorem reads_in (h : Rd s c r) {i : Int} {k : List (List Int) → Option (List (List Int))} (hi : 0 ≤ i ∧ i < c.length) :
    ∀ (m : Nat) (out : List (List Int)) (j : Int), 0 ≤ j → j ≤ c.length → c.length - j < m → out.length = c.length → ((nth out i).length : Int) = j →
      m_timebase_plan_reads_L4 c i ⟨s⟩ r k m out j = k (out.set i.toNat (nth out i ++ (rng j (c.length - j).toNat).map (rd s c r i))) := by
  intro m
  induction m with
  | zero => intro out j; omega
  | succ m ih =>
    intro out j h0 h1 h2 h3 h4
    rw [m_timebase_plan_reads_L4]
    have hn := h.n
    by_cases hj : j < c.length
    · have hx := h.ix hi ⟨h0, hj⟩
      have hb := h.cb hi ⟨h0, hj⟩
      rw [if_pos (by simpa using hj), chk_pos ⟨h0, hj⟩]
      refine jp1_use fun k1 hk1 => ?_
      have hr : ∀ v : Int, v = rd s c r i j → k1 v = k (out.set i.toNat (nth out i ++ (rng j (c.length - j).toNat).map (rd s c r i))) := by
        rintro v rfl
        rw [hk1, chk_pos (by omega), chk_pos (by simp; omega), i64_id (x := j + 1) (by omega), ih _ (j + 1) (by omega) (by omega) (by omega) (by simpa using h3) (by rw [nth_set hi.1 (by omega)]; simp; omega)]
        rw [nth_set hi.1 (by omega), List.set_set, rng_from h0 hj, List.map_cons, List.append_assoc]
        rfl
      by_cases he : i = j
      · rw [if_pos (by simpa using he)]; exact hr _ (by unfold rd; rw [if_pos he])
      · rw [if_neg (by simpa using he), correct_eq h.f, Option.bind_some, hx.1]
        by_cases hc : cor s j = true
        · rw [if_pos hc]
          dsimp only
          rw [cyclic_eq hx.2, Option.bind_some]
          exact hr _ (by unfold rd; rw [if_neg he, if_pos hc, i64_id (by omega)])
        · rw [if_neg hc]
          dsimp only
          rw [cyclic_eq hx.2, Option.bind_some]
          exact hr _ (by unfold rd; rw [if_neg he, if_neg hc, i64_id (by omega)])
    · rw [if_neg (by simpa using hj), rng_end hj, List.map_nil, List.append_nil]
      congr 1
      have e := nth_lt (l := out) (i := i) hi.1 (by omega)
      rw [← e, List.set_getElem_self]
theorem reads_out (h : Rd s c r) {k : List (List Int) → Option (List (List Int))} :
    ∀ (m : Nat) (i : Int), 0 ≤ i → i ≤ c.length → c.length - i < m →
      m_timebase_plan_reads_L3 c ⟨s⟩ r k m ((rng 0 i.toNat).map (rrow s c r) ++ List.replicate (c.length - i).toNat []) i = k (rds s c r) := by
  intro m
  induction m with
  | zero => intro i; omega
  | succ m ih =>
    intro i h0 h1 h2
    rw [m_timebase_plan_reads_L3]
    have hn := h.n
    by_cases hi : i < c.length
    · rw [if_pos (by simpa using hi)]
      refine jp1_use fun k1 hk1 => jp1_use fun k2 hk2 => ?_
      have e1 : (c.length - i).toNat = (c.length - (i + 1)).toNat + 1 := by omega
      have sa := set_app ((rng 0 i.toNat).map (rrow s c r)) (List.replicate (c.length - (i + 1)).toNat []) [] (rrow s c r i) (i := i) (by simp [rng_len]; omega)
      rw [← List.replicate_succ, ← e1] at sa
      have hlen : ((rng 0 i.toNat).map (rrow s c r) ++ List.replicate (c.length - i).toNat []).length = c.length := by simp [rng_len]; omega
      rw [reads_in h ⟨h0, hi⟩ FUEL _ 0 (by omega) (by omega) (by rw [FUEL_eq]; omega) hlen (by rw [sa.2]; rfl)]
      rw [hk2, hk1, sa.2, i64_id (x := i + 1) (by omega), show ((c.length : Int) - 0).toNat = c.length from by omega, List.nil_append]
      have := ih (i + 1) (by omega) (by omega) (by omega)
      rw [show (i + 1).toNat = i.toNat + 1 from by omega, rng_snoc, show (0 : Int) + (i.toNat : Int) = i from by omega, List.map_append, List.append_assoc] at this
      have hs := sa.1
      unfold rrow at hs this ⊢
      rw [hs]
      exact this
    · have e : i = c.length := by omega
      subst e
      rw [if_neg (by simp)]
      simp [rds]
theorem reads_eq (h : Rd s c r) : m_timebase_plan_reads ⟨s⟩ c r = some (rds s c r) := by
  unfold m_timebase_plan_reads
  have hn := h.n
  rw [chk_pos (by omega)]
  refine jp1_use fun k hk => ?_
  have := reads_out h (k := k) FUEL 0 (by omega) (by omega) (by rw [FUEL_eq]; omega)
  rw [hk] at this
  rw [← this, show ((c.length : Int) - 0).toNat = (c.length : Int).toNat from by omega]
  rfl
theorem read_eq (h : Rd s c r) {i j : Int} (hi : 0 ≤ i ∧ i < c.length) (hj : 0 ≤ j ∧ j < c.length) : m_ref34_read s c r i j = some (rd s c r i j) := by
  unfold m_ref34_read rd
  have hx := h.rix hi hj
  have hp := (h.ix hi hj).2
  have hb := h.cb hi hj
  by_cases he : i = j
  · rw [if_pos (by simpa using he), if_pos he, chk_pos hj]
  · rw [if_neg (by simpa using he), if_neg he, faulty_eq h.f, Option.bind_some]
    cases hc : cor s j
    · rw [Bool.not_false, if_pos rfl]
      simp only [Bool.false_eq_true, if_false]
      by_cases hl : (s.fLies.length : Int) = 0
      · rw [if_pos (by simpa using hl), chk_pos hj]; unfold cyc; rw [if_pos hl, Int.add_zero]
      · rw [if_neg (by simpa using hl), chk_pos hj, chk_pos hl, hx]
        have h1 := Int.tmod_nonneg s.fLies.length hp
        have h2 := Int.tmod_lt_of_pos ((r * c.length + i) * c.length + j) (show 0 < (s.fLies.length : Int) by omega)
        rw [chk_pos ⟨h1, h2⟩]
        unfold cyc at hb ⊢
        rw [if_neg hl] at hb ⊢
        rw [i64_id (by omega)]
    · rw [Bool.not_true]
      simp only [Bool.false_eq_true, if_false, if_true]
      by_cases hl : (s.fErrs.length : Int) = 0
      · rw [if_pos (by simpa using hl), chk_pos hj]; unfold cyc; rw [if_pos hl, Int.add_zero]
      · rw [if_neg (by simpa using hl), chk_pos hj, chk_pos hl, hx]
        have h1 := Int.tmod_nonneg s.fErrs.length hp
        have h2 := Int.tmod_lt_of_pos ((r * c.length + i) * c.length + j) (show 0 < (s.fErrs.length : Int) by omega)
        rw [chk_pos ⟨h1, h2⟩]
        unfold cyc at hb ⊢
        rw [if_neg hl] at hb ⊢
        rw [i64_id (by omega)]
theorem rreads_in (h : Rd s c r) {i : Int} {k : List Int → Option (List (List Int))} (hi : 0 ≤ i ∧ i < c.length) :
    ∀ (m : Nat) (row : List Int) (j : Int), 0 ≤ j → j ≤ c.length → c.length - j < m → (row.length : Int) = j →
      m_ref34_Reads_L4 c s r i k m row j = k (row ++ (rng j (c.length - j).toNat).map (rd s c r i)) := by
  intro m
  induction m with
  | zero => intro row j; omega
  | succ m ih =>
    intro row j h0 h1 h2 h3
    rw [m_ref34_Reads_L4]
    have hn := h.n
    by_cases hj : j < c.length
    · rw [if_pos (by simpa using hj), read_eq h hi ⟨h0, hj⟩, Option.bind_some, chk_pos (by simp; omega), i64_id (x := j + 1) (by omega), ih _ (j + 1) (by omega) (by omega) (by omega) (by simp; omega), rng_from h0 hj]
      simp
    · rw [if_neg (by simpa using hj), rng_end hj]; simp
theorem rreads_out (h : Rd s c r) {k : List (List Int) → Option (List (List Int))} :
    ∀ (m : Nat) (out : List (List Int)) (i : Int), 0 ≤ i → i ≤ c.length → c.length - i < m → (out.length : Int) = i →
      m_ref34_Reads_L3 c s r k m out i = k (out ++ (rng i (c.length - i).toNat).map (rrow s c r)) := by
  intro m
  induction m with
  | zero => intro out i; omega
  | succ m ih =>
    intro out i h0 h1 h2 h3
    rw [m_ref34_Reads_L3]
    have hn := h.n
    by_cases hi : i < c.length
    · rw [if_pos (by simpa using hi)]
      refine jp1_use fun k1 hk1 => jp1_use fun k2 hk2 => ?_
      rw [rreads_in h ⟨h0, hi⟩ FUEL _ 0 (by omega) (by omega) (by rw [FUEL_eq]; omega) rfl, hk2, chk_pos (by simp; omega), hk1, i64_id (x := i + 1) (by omega), ih _ (i + 1) (by omega) (by omega) (by omega) (by simp; omega), rng_from h0 hi]
      simp [rrow]
    · rw [if_neg (by simpa using hi), rng_end hi]; simp
theorem rreads_eq (h : Rd s c r) : m_ref34_Reads s c r = some (rds s c r) := by
  unfold m_ref34_Reads
  have hn := h.n
  refine jp1_use fun k hk => ?_
  rw [rreads_out h FUEL [] 0 (by omega) (by omega) (by rw [FUEL_eq]; omega) rfl, hk]
  simp [rds]
end
end Go.Proofs.Ytbejngeaocfieaa
