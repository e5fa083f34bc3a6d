/- A part of this claim's proof: models of the functions that the law reaches, with the proof that the functions compute them; plain laws about the models. No conditions beyond those in each theorem's statement. -/
import Derived.Test.YtbejngeaocfieaaWTimebaseShift
import Derived.Test.YtbejngeaocfieaaPG
set_option linter.all false
namespace Go.Proofs.Ytbejngeaocfieaa
open Go Go.RowKit Sep
def sh (b : Int) (l : List Int) : List Int := l.map (· + b)
def tw (s : Su) (c : List Int) : Su := ⟨c, s.fDrift, s.fFaulty, s.fF, s.fE, s.fErrs, s.fLies⟩
theorem sh_len (b : Int) (l : List Int) : (sh b l).length = l.length := by simp [sh]
theorem sh_nth {b : Int} {l : List Int} {i : Int} (h0 : 0 ≤ i) (h1 : i < l.length) : nth (sh b l) i = nth l i + b := nth_map (f := (· + b)) h0 h1
theorem mid_sh {l : List Int} {f b : Int} (h : okN l.length f) : mid (sh b l) f = mid l f + b := by
  unfold mid sh
  rw [List.length_map, stat_shift (by omega) (by omega), stat_shift (by omega) (by omega)]
  omega
theorem rng_map_congr {β : Type} {f g : Int → β} {n : Nat} (h : ∀ i : Int, 0 ≤ i → i < n → f i = g i) : (rng 0 n).map f = (rng 0 n).map g :=
  List.map_congr_left fun i hi => by rw [rng_mem] at hi; exact h i hi.1 (by omega)
theorem drf_sh (s : Su) (c0 c : List Int) (b : Int) : drf (tw s c0) (sh b c) = sh b (drf s c) := by
  unfold drf
  rw [sh_len]
  conv => rhs; unfold sh
  rw [List.map_map]
  refine rng_map_congr fun i h0 h1 => ?_
  rw [sh_nth h0 h1]
  simp only [tw, Function.comp]
  omega
theorem rrow_sh (s : Su) (c0 c : List Int) (b r i : Int) : rrow (tw s c0) (sh b c) r i = sh b (rrow s c r i) := by
  unfold rrow
  rw [sh_len]
  conv => rhs; unfold sh
  rw [List.map_map]
  refine rng_map_congr fun j h0 h1 => ?_
  unfold rd
  rw [sh_nth h0 h1, sh_len]
  simp only [tw, Function.comp, cor]
  split
  · rfl
  · exact Int.add_right_comm _ _ _
theorem hist_sh {s : Su} (hs : Vl s) (b : Int) : ∀ q : Nat, hist (tw s (sh b s.fStart)) q = sh b (hist s q)
  | 0 => rfl
  | q + 1 => by
    rw [hist, hist, hist_sh hs b q, drf_sh]
    unfold rds
    rw [sh_len, List.map_map]
    conv => rhs; unfold sh
    rw [List.map_map, List.map_map]
    refine rng_map_congr fun i h0 h1 => ?_
    simp only [Function.comp]
    rw [rrow_sh]
    exact mid_sh (row_okN hs (by rw [drf_len, hist_len]) i)
theorem own_sh (s : Su) (c0 c : List Int) (b : Int) : own (tw s c0) (sh b c) = sh b (own s c) := by
  unfold own
  rw [sh_len]
  conv => rhs; unfold sh
  rw [List.map_map]
  refine List.map_congr_left fun i hi => ?_
  have hi' := (List.mem_filter.1 hi).1
  rw [rng_mem] at hi'
  exact sh_nth hi'.1 (by omega)
theorem spr_sh {s : Su} (c0 : List Int) {c : List Int} (b : Int) (hp : 0 < (own s c).length) : spr (tw s c0) (sh b c) = spr s c := by
  unfold spr
  rw [own_sh]
  have h1 := hiOf_mem hp
  have h2 := loOf_mem hp
  have hp' : 0 < (sh b (own s c)).length := by rw [sh_len]; exact hp
  obtain ⟨x, hx, ex⟩ := List.mem_map.1 (hiOf_mem hp')
  obtain ⟨y, hy, ey⟩ := List.mem_map.1 (loOf_mem hp')
  replace ex : x + b = hiOf (sh b (own s c)) := ex
  replace ey : y + b = loOf (sh b (own s c)) := ey
  have a1 := hiOf_ge hx
  have a2 := loOf_le hy
  have a3 : hiOf (own s c) + b ≤ hiOf (sh b (own s c)) := hiOf_ge (List.mem_map.2 ⟨_, h1, rfl⟩)
  have a4 : loOf (sh b (own s c)) ≤ loOf (own s c) + b := loOf_le (List.mem_map.2 ⟨_, h2, rfl⟩)
  omega
theorem shift4 {s : Su} {b : Int} {k : List Int → Option Bool} (hb : -32768 ≤ b ∧ b ≤ 32767) (hl : (s.fStart.length : Int) ≤ 1000000) (hst : ∀ x ∈ s.fStart, -1048576 ≤ x ∧ x ≤ 1048576) :
    ∀ (m : Nat) (i : Int) (out : List Int), 0 ≤ i → i ≤ s.fStart.length → s.fStart.length - i < m → (out.length : Int) = i → m_law34_TimebaseShift_L4 s b k m i out = k (out ++ sh b (s.fStart.drop i.toNat)) := by
  intro m
  induction m with
  | zero => intro i; omega
  | succ m ih =>
    intro i out h0 h1 h2 h3
    rw [m_law34_TimebaseShift_L4]
    by_cases hi : i < s.fStart.length
    · have := hst _ (nth_mem h0 hi)
      rw [if_pos (by simpa using hi), chk_pos ⟨h0, hi⟩, chk_pos (by simp; omega), i64_id (x := b) (by omega), i64_id (x := nth s.fStart i + b) (by omega), i64_id (x := i + 1) (by omega), ih (i + 1) _ (by omega) (by omega) (by omega) (by simp; omega), drop_cons h0 hi]
      simp [sh]
    · rw [if_neg (by simpa using hi), drop_end hi]; simp [sh]
theorem shift6 {a c : List (List Int)} {v b : Int} {x : List Int} {k : Option Bool} (hb : -32768 ≤ b ∧ b ≤ 32767) (ha : nth a v = x) (hc : nth c v = sh b x) (hv : (0 ≤ v ∧ v < a.length) ∧ v < c.length) (hx : ∀ y ∈ x, -1000000000 ≤ y ∧ y ≤ 1000000000) (hl : (x.length : Int) ≤ 1000000) :
    ∀ (m : Nat) (i : Int), 0 ≤ i → i ≤ x.length → x.length - i < m → m_law34_TimebaseShift_L6 a v c b k m i = k := by
  intro m
  induction m with
  | zero => intro i; omega
  | succ m ih =>
    intro i h0 h1 h2
    rw [m_law34_TimebaseShift_L6, ha, hc]
    by_cases hi : i < x.length
    · have := hx _ (nth_mem h0 hi)
      rw [if_pos (by simpa using hi), chk_pos (by omega), chk_pos (by rw [sh_len]; omega), chk_pos (by omega), chk_pos ⟨h0, hi⟩, sh_nth h0 hi, i64_id (x := b) (by omega), i64_id (x := nth x i + b) (by omega), if_neg (by simp), i64_id (x := i + 1) (by omega)]
      exact ih (i + 1) (by omega) (by omega) (by omega)
    · rw [if_neg (by simpa using hi)]
theorem shift5 {s : Su} (hs : Vl s) {b rounds : Int} (hb : -32768 ≤ b ∧ b ≤ 32767) (ht : Vl (tw s (sh b s.fStart))) (hr : 0 ≤ rounds ∧ rounds ≤ 30) {k : Option Bool} :
    ∀ (m : Nat) (i : Int), 0 ≤ i → i ≤ rounds + 1 → rounds + 1 - i < m →
      m_law34_TimebaseShift_L5 (runs s rounds, 0) s (sh b s.fStart) b k m (runs s rounds) (runs (tw s (sh b s.fStart)) rounds) i = k := by
  intro m
  induction m with
  | zero => intro i; omega
  | succ m ih =>
    intro i h0 h1 h2
    rw [m_law34_TimebaseShift_L5]
    have l1 := runs_len s hr.1
    have l2 := runs_len (tw s (sh b s.fStart)) hr.1
    have n13 := hs.n13
    dsimp only
    by_cases hi : i < (runs s rounds).length
    · have hh := hist_len s i.toNat
      have hx : nth (runs s rounds) i = hist s i.toNat := runs_nth s h0 (by omega)
      have hy : nth (runs (tw s (sh b s.fStart)) rounds) i = sh b (hist s i.toNat) := by rw [runs_nth _ h0 (by omega), hist_sh hs]
      have hbd := hist_bd hs i.toNat
      unfold bnd at hbd
      rw [if_pos (by simpa using hi)]
      refine jp2_use fun k1 hk1 => ?_
      have hf2 := fit_hist ht (r := i.toNat) (by omega)
      rw [hist_sh hs] at hf2
      rw [hx, hy, chk_pos ⟨h0, hi⟩, skew_eq (by omega), if_pos (fit_hist hs (by omega)), Option.bind_some, chk_pos (by omega)]
      have hsk := skew_eq (s := tw s (sh b s.fStart)) (c := sh b (hist s i.toNat)) (by rw [sh_len]; omega)
      rw [if_pos hf2, spr_sh _ b (own_pos hs hh)] at hsk
      unfold tw at hsk
      rw [hsk, Option.bind_some]
      dsimp only
      rw [if_neg (by simp), chk_pos ⟨h0, hi⟩]
      refine jp0_use fun k2 hk2 => ?_
      rw [shift6 hb hx hy ⟨⟨h0, hi⟩, by omega⟩ (fun y hy => by have := hbd y hy; omega) (by omega) FUEL 0 (by omega) (by omega) (by rw [FUEL_eq]; omega), hk2, hk1, i64_id (x := i + 1) (by omega)]
      exact ih (i + 1) (by omega) (by omega) (by omega)
    · rw [if_neg (by simpa using hi)]
theorem shift_true {s : Su} {b n : Int} (hb : -32768 ≤ b ∧ b ≤ 32767) (hn : 0 ≤ n ∧ n ≤ 255) : m_law34_TimebaseShift s b n = some true := by
  unfold m_law34_TimebaseShift
  refine head_eq s _ (by rw [if_pos rfl, awake_true]; rfl) fun hs => ?_
  obtain ⟨e1, e2, e3⟩ := m31 hn
  have n13 := hs.n13
  simp only [Bool.false_eq_true, if_false]
  refine jp1_use fun k hk => ?_
  rw [shift4 hb (by omega) hs.st FUEL 0 [] (by omega) (by omega) (by rw [FUEL_eq]; omega) rfl, Int.toNat_zero, List.drop_zero, List.nil_append, hk]
  by_cases ht : Vl (tw s (sh b s.fStart))
  · have ht' := ht
    unfold tw at ht'
    rw [valid_yes ht', Option.bind_some, if_neg (by simp), e1, run_eq, if_pos ⟨hs, by omega, by omega⟩, Option.bind_some, run_eq, if_pos ⟨ht', by omega, by omega⟩, Option.bind_some]
    dsimp only
    have l1 := runs_len s e2
    have l2 := runs_len (tw s (sh b s.fStart)) e2
    unfold tw at l2
    rw [if_neg (by simp; omega)]
    refine jp0_use fun k2 hk2 => ?_
    have := shift5 hs hb ht ⟨e2, e3⟩ (k := k2) FUEL 0 (by omega) (by omega) (by rw [FUEL_eq]; omega)
    unfold tw at this
    rw [this, hk2, awake_true]
    rfl
  · unfold tw at ht
    rw [valid_no ht, Option.bind_some, if_pos (by simp), awake_true]
    rfl
end Go.Proofs.Ytbejngeaocfieaa
