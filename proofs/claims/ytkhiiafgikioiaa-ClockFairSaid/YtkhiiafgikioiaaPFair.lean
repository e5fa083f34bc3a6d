/- A part of this claim's proof: models of the functions that the law reaches, with the proof that the functions compute them; plain laws about the models. No conditions beyond those in each theorem's statement. -/
import Derived.Test.YtkhiiafgikioiaaWClockFair
import Derived.Test.YtkhiiafgikioiaaP3True
import Derived.Test.YtkhiiafgikioiaaP3
set_option linter.all false
namespace Go.Proofs.Ytkhiiafgikioiaa
open Go Go.RowKit Sep
def ones (B : List Int) : List (Int × Int) := B.map fun j => (j, 1)
theorem ones_get (B : List Int) (j : Int) : mget (ones B) j 0 = if j ∈ B then 1 else 0 := by
  induction B with
  | nil => rfl
  | cons x B ih =>
    simp only [ones, List.map_cons, mget, List.mem_cons] at ih ⊢
    by_cases h : j = x
    · simp [h]
    · simp [h, ih]
theorem ones_put (B : List Int) (j v : Int) (h : j ∉ B) : mput (ones B) j v = ones B ++ [(j, v)] := by
  induction B with
  | nil => rfl
  | cons x B ih =>
    simp only [List.mem_cons, not_or] at h
    simp only [ones, List.map_cons, mput] at ih ⊢
    rw [if_neg h.1, ih h.2]; rfl
theorem ones_len (B : List Int) : (ones B).length = B.length := by simp [ones]
theorem ones_app (B : List Int) (j : Int) : ones B ++ [(j, 1)] = ones (B ++ [j]) := by simp [ones]
/-! ### how many places are among B -/
theorem cnt_or (p q : Nat → Bool) (l : List Nat) : l.countP (fun x => p x || q x) ≤ l.countP p + l.countP q := by
  induction l with
  | nil => simp
  | cons x l ih => simp only [List.countP_cons]; cases p x <;> cases q x <;> simp <;> omega
theorem cnt_one (v : Int) (n : Nat) : (List.range n).countP (fun j : Nat => decide ((j : Int) = v)) ≤ 1 := by
  induction n with
  | zero => simp
  | succ n ih =>
    rw [List.range_succ, List.countP_append, List.countP_singleton]
    by_cases h : (n : Int) = v
    · have : (List.range n).countP (fun j : Nat => decide ((j : Int) = v)) = 0 := by
        rw [List.countP_eq_zero]; intro j hj; rw [List.mem_range] at hj; simp; omega
      rw [this]; split <;> omega
    · simp [h]; omega
theorem cnt_any (n : Nat) (B : List Int) : (List.range n).countP (fun j : Nat => decide ((j : Int) ∈ B)) ≤ B.length := by
  induction B with
  | nil => simp
  | cons v B ih =>
    have h1 := cnt_or (fun j : Nat => decide ((j : Int) = v)) (fun j : Nat => decide ((j : Int) ∈ B)) (List.range n)
    have h2 := cnt_one v n
    have h3 : (List.range n).countP (fun j : Nat => decide ((j : Int) ∈ v :: B)) = (List.range n).countP (fun j : Nat => decide ((j : Int) = v) || decide ((j : Int) ∈ B)) := by
      congr 1; funext j; simp
    rw [h3, List.length_cons]
    omega
theorem cnt_nth (t : List Int) (p : Int → Bool) : t.countP p = (List.range t.length).countP (fun j : Nat => p (nth t (j : Int))) := by
  have h : t = (List.range t.length).map (fun j : Nat => nth t (j : Int)) := by
    apply List.ext_getElem
    · simp
    · intro i h1 h2
      have := nth_lt (l := t) (i := (i : Int)) (by omega) (by omega)
      simpa using this
  conv => lhs; rw [h]
  rw [List.countP_map]
  rfl
theorem bad_le {t B : List Int} {lo hi : Int} (h : ∀ j : Int, 0 ≤ j → j < t.length → j ∉ B → lo ≤ nth t j ∧ nth t j ≤ hi) : bad lo hi t ≤ B.length := by
  refine Nat.le_trans ?_ (cnt_any t.length B)
  unfold bad
  rw [cnt_nth]
  refine List.countP_mono_left fun j hj hq => ?_
  rw [List.mem_range] at hj
  rw [decide_eq_true_eq]
  refine Classical.byContradiction fun hn => ?_
  have := h j (by omega) (by omega) hn
  simp at hq
  omega
theorem some_good {n : Nat} {B : List Int} (h : B.length < n) : ∃ j : Int, 0 ≤ j ∧ j < n ∧ j ∉ B := by
  refine Classical.byContradiction fun hn => ?_
  have h1 : (List.range n).countP (fun j : Nat => decide ((j : Int) ∈ B)) = n := by
    have : (List.range n).countP (fun j : Nat => decide ((j : Int) ∈ B)) = (List.range n).length := by
      rw [List.countP_eq_length]
      intro j hj
      rw [List.mem_range] at hj
      rw [decide_eq_true_eq]
      exact Classical.byContradiction fun hb => hn ⟨j, by omega, by omega, hb⟩
    simpa using this
  have := cnt_any n B
  omega
theorem fair4 {x lies : List Int} {faulty n : Int} {k : List Int → Int → Int → List (Int × Int) → Option Bool} (hlies : ∀ y ∈ lies, -32768 ≤ y ∧ y ≤ 32767) (hx : (x.length : Int) ≤ 16) (hf : 0 ≤ Int.tmod (i64 n) 8 ∧ Int.tmod (i64 n) 8 ≤ 7) :
    ∀ (m : Nat) (t B : List Int) (lo hi i : Int), 0 ≤ i → i ≤ x.length → x.length - i < m → t.length = x.length → (∀ y ∈ t, -32768 ≤ y ∧ y ≤ 32767) → (B.length : Int) ≤ Int.tmod (i64 n) 8 → (∀ j ∈ B, 0 ≤ j ∧ j < i) →
      (∀ j : Int, 0 ≤ j → j < i → j ∉ B → lo ≤ nth t j ∧ nth t j ≤ hi) → -1073741824 ≤ hi → lo ≤ 1073741824 →
      ∃ t' B' lo' hi', m_law33_ClockFair_L4 x faulty n lies k m t lo hi i (ones B) = k t' lo' hi' (ones B') ∧ t'.length = x.length ∧ (∀ y ∈ t', -32768 ≤ y ∧ y ≤ 32767) ∧ (B'.length : Int) ≤ Int.tmod (i64 n) 8 ∧
        (∀ j : Int, 0 ≤ j → j < x.length → j ∉ B' → lo' ≤ nth t' j ∧ nth t' j ≤ hi') ∧ (lo' = lo ∨ -32768 ≤ lo') ∧ (hi' = hi ∨ hi' ≤ 32767) := by
  intro m
  induction m with
  | zero => intro t B lo hi i; omega
  | succ m ih =>
    intro t B lo hi i h0 h1 h2 h3 h4 h5 h6 h7 h8 h9
    rw [m_law33_ClockFair_L4]
    by_cases hi' : i < x.length
    · have hnB : i ∉ B := fun h => by have := h6 i h; omega
      have hg : mget (ones B) i 0 = 0 := by rw [ones_get, if_neg hnB]
      have hp : mput (ones B) i (i64 (mget (ones B) i 0 + 1)) = ones (B ++ [i]) := by rw [hg, i64_id (by omega), ones_put B i _ hnB, ← ones_app]; rfl
      have hstep := i64_id (x := i + 1) (by omega)
      rw [if_pos (by simpa using hi')]
      simp only [jp4, jp1]
      rw [chk_pos h0]
      by_cases hc : (decide ((bits .and .u16 (faulty / 2 ^ min (i : Int).toNat 16) 1) = 1) && decide ((((ones B).length : Nat) : Int) < Int.tmod (i64 n) 8)) = true
      · rw [if_pos hc]
        have hu : ((ones B).length : Int) < Int.tmod (i64 n) 8 := by simp at hc; exact hc.2
        rw [ones_len] at hu
        have hB6 : ∀ j ∈ B ++ [i], 0 ≤ j ∧ j < i + 1 := by
          intro j hj
          rcases List.mem_append.1 hj with hj | hj
          · have := h6 j hj; omega
          · rw [List.mem_singleton.1 hj]; omega
        by_cases hl : (B.length : Int) < lies.length
        · have hv := hlies _ (nth_mem (l := lies) (i := (B.length : Int)) (by omega) hl)
          rw [if_pos (by rw [ones_len]; simpa using hl), ones_len, chk_pos ⟨by omega, hl⟩, chk_pos ⟨h0, by omega⟩, hp, hstep, i64_id (x := nth lies B.length) (by omega)]
          refine ih _ (B ++ [i]) lo hi (i + 1) (by omega) (by omega) (by omega) (by simpa using h3) ?_ (by simp; omega) hB6 ?_ h8 h9
          · intro y hy
            rcases List.mem_or_eq_of_mem_set hy with hy | rfl
            · exact h4 y hy
            · omega
          · intro j j0 j1 j2
            simp only [List.mem_append, List.mem_singleton, not_or] at j2
            have e : nth (t.set i.toNat (nth lies B.length)) j = nth t j := by
              have a := nth_lt (l := t.set i.toNat (nth lies B.length)) (i := j) j0 (by simp; omega)
              have b := nth_lt (l := t) (i := j) j0 (by omega)
              rw [← a, ← b, List.getElem_set_ne (by omega)]
            rw [e]
            exact h7 j j0 (by omega) j2.1
        · rw [if_neg (by rw [ones_len]; simpa using hl), hp, hstep]
          refine ih _ (B ++ [i]) lo hi (i + 1) (by omega) (by omega) (by omega) h3 h4 (by simp; omega) hB6 ?_ h8 h9
          intro j j0 j1 j2
          simp only [List.mem_append, List.mem_singleton, not_or] at j2
          exact h7 j j0 (by omega) j2.1
      · rw [if_neg hc, chk_pos ⟨h0, by omega⟩, hstep]
        have hb := h4 _ (nth_mem (l := t) (i := i) h0 (by omega))
        obtain ⟨t', B', lo', hi'', e1, e2, e3, e4, e5, e6, e7⟩ := ih t B (min lo (nth t i)) (max hi (nth t i)) (i + 1) (by omega) (by omega) (by omega) h3 h4 h5 (fun j hj => by have := h6 j hj; omega) (fun j j0 j1 j2 => by
          by_cases hj : j = i
          · subst hj; omega
          · have := h7 j j0 (by omega) j2; omega) (by omega) (by omega)
        exact ⟨t', B', lo', hi'', e1, e2, e3, e4, e5, by omega, by omega⟩
    · rw [if_neg (by simpa using hi')]
      exact ⟨t, B, lo, hi, rfl, h3, h4, h5, fun j j0 j1 => h7 j j0 (by omega), .inl rfl, .inl rfl⟩
theorem susF_mem (m w : Int) : ∀ (l : List Int) (i j : Int), j ∈ susF m w i l → i ≤ j ∧ j < i + l.length ∧ (nth l (j - i) - m > w ∨ m - nth l (j - i) > w)
  | [], i, j, h => by simp [susF] at h
  | x :: l, i, j, h => by
    have hh : ∀ j : Int, i + 1 ≤ j → j < i + 1 + l.length → nth (x :: l) (j - i) = nth l (j - (i + 1)) := by
      intro j a b
      have e1 := nth_lt (l := x :: l) (i := j - i) (by omega) (by simp; omega)
      have e2 := nth_lt (l := l) (i := j - (i + 1)) (by omega) (by omega)
      rw [← e1, ← e2]
      have : (j - i).toNat = (j - (i + 1)).toNat + 1 := by omega
      simp [this]
    have ih := susF_mem m w l (i + 1) j
    simp only [susF] at h
    have h00 : nth (x :: l) (i - i) = x := by rw [Int.sub_self]; rfl
    simp only [List.length_cons]
    split at h
    · rcases List.mem_cons.1 h with rfl | h
      · rw [h00]; omega
      · have := ih h
        rw [hh j (by omega) (by omega)]; omega
    · have := ih h
      rw [hh j (by omega) (by omega)]; omega
theorem susF_all (m w : Int) : ∀ (l : List Int) (i : Int) (q : Nat), q < l.length → (nth l (q : Int) - m > w ∨ m - nth l (q : Int) > w) → i + q ∈ susF m w i l
  | [], _, q, h, _ => by simp at h
  | x :: l, i, 0, _, h => by
    have : x - m > w ∨ m - x > w := h
    simp only [susF]; rw [if_pos this]; simp
  | x :: l, i, q + 1, hq, h => by
    have e : nth (x :: l) ((q + 1 : Nat) : Int) = nth l (q : Int) := by
      have e1 := nth_lt (l := x :: l) (i := ((q + 1 : Nat) : Int)) (by omega) (by simp at hq ⊢; omega)
      have e2 := nth_lt (l := l) (i := (q : Int)) (by omega) (by simp at hq; omega)
      rw [← e1, ← e2]
      simp
    rw [e] at h
    have := susF_all m w l (i + 1) q (by simpa using hq) h
    simp only [susF]
    rw [show i + ((q + 1 : Nat) : Int) = i + 1 + q from by omega]
    split
    · exact List.mem_cons_of_mem _ this
    · exact this
theorem susF_up (m w : Int) : ∀ (l : List Int) (i : Int), (susF m w i l).Pairwise (· < ·)
  | [], _ => by simp [susF]
  | x :: l, i => by
    simp only [susF]
    split
    · refine List.pairwise_cons.2 ⟨fun j hj => ?_, susF_up m w l (i + 1)⟩
      have := susF_mem m w l (i + 1) j hj
      omega
    · exact susF_up m w l (i + 1)
theorem up_nth {s : List Int} (h : s.Pairwise (· < ·)) {i j : Int} (h0 : 0 ≤ i) (hij : i < j) (h1 : j < s.length) : nth s i < nth s j := by
  rw [← nth_lt (l := s) h0 (by omega), ← nth_lt (l := s) (i := j) (by omega) h1]
  exact List.pairwise_iff_getElem.1 h _ _ _ _ (by omega)
theorem fair5 {s t B : List Int} {e : Int} {k : List (Int × Int) → Option Bool} (hs : (s.length : Int) ≤ 16) (hup : s.Pairwise (· < ·)) (hin : ∀ j ∈ s, 0 ≤ j ∧ j < t.length ∧ j ∈ B) (ht : (t.length : Int) ≤ 16) :
    ∀ (m : Nat) (i : Int), 0 ≤ i → i ≤ s.length → s.length - i < m → m_law33_ClockFair_L5 (s, e) t (ones B) k m s i (ones (s.take i.toNat)) = k (ones s) := by
  intro m
  induction m with
  | zero => intro i; omega
  | succ m ih =>
    intro i h0 h1 h2
    rw [m_law33_ClockFair_L5]
    dsimp only
    by_cases hi : i < s.length
    · obtain ⟨a, b, c⟩ := hin _ (nth_mem (l := s) h0 hi)
      have hx : nth s i ∉ s.take i.toNat := by
        intro hm
        obtain ⟨q, hq, e⟩ := List.getElem_of_mem hm
        rw [List.getElem_take] at e
        simp at hq
        have e2 := nth_lt (l := s) (i := (q : Int)) (by omega) (by omega)
        simp only [Int.toNat_natCast] at e2
        have := up_nth hup (i := (q : Int)) (j := i) (by omega) (by omega) hi
        rw [← e2, e] at this
        omega
      have hg : mget (ones (s.take i.toNat)) (nth s i) 0 = 0 := by rw [ones_get, if_neg hx]
      have hB : mget (ones B) (nth s i) 0 = 1 := by rw [ones_get, if_pos c]
      rw [if_pos (by simpa using hi), chk_pos ⟨h0, hi⟩, chk_pos (fun _ h => by simp only [decide_eq_true_eq] at h; rw [i64_id (x := i - 1) (by omega)]; omega), i64_id (x := i - 1) (by omega), hB, hg]
      rw [if_neg (by
        by_cases hp : 0 < i
        · have := up_nth hup (i := i - 1) (j := i) (by omega) (by omega) hi
          simp; omega
        · simp; omega)]
      rw [i64_id (x := 0 + 1) (by omega), ones_put _ _ _ hx, show ((0 : Int) + 1) = 1 from rfl, ones_app, ← take_succ s h0 hi, i64_id (x := i + 1) (by omega)]
      exact ih (i + 1) (by omega) (by omega) (by omega)
    · rw [if_neg (by simpa using hi), List.take_of_length_le (by omega)]
theorem fair6 {s t : List Int} {lo hi : Int} {k : Option Bool} (ht : (t.length : Int) ≤ 16) (hlo : -32768 ≤ lo ∧ lo ≤ 32767) (hhi : -32768 ≤ hi ∧ hi ≤ 32767) (hall : ∀ i : Int, 0 ≤ i → i < t.length → (nth t i < lo - 2 * (hi - lo) ∨ nth t i > hi + 2 * (hi - lo)) → i ∈ s) :
    ∀ (m : Nat) (i : Int), 0 ≤ i → i ≤ t.length → t.length - i < m → m_law33_ClockFair_L6 t lo hi (ones s) k m t i = k := by
  intro m
  induction m with
  | zero => intro i; omega
  | succ m ih =>
    intro i h0 h1 h2
    rw [m_law33_ClockFair_L6]
    by_cases hi' : i < t.length
    · rw [if_pos (by simpa using hi'), chk_pos ⟨h0, hi'⟩, chk_pos (fun _ => ⟨h0, hi'⟩), i64_id (x := hi - lo) (by omega), i64_id (x := 2 * (hi - lo)) (by omega), i64_id (x := lo - 2 * (hi - lo)) (by omega), i64_id (x := hi + 2 * (hi - lo)) (by omega), ones_get]
      have h := hall i h0 hi'
      rw [if_neg (by
        by_cases hc : nth t i < lo - 2 * (hi - lo) ∨ nth t i > hi + 2 * (hi - lo)
        · rw [if_pos (h hc)]; simp
        · simp; omega), i64_id (x := i + 1) (by omega)]
      exact ih (i + 1) (by omega) (by omega) (by omega)
    · rw [if_neg (by simpa using hi')]
theorem clockFair_true {l : List Int} {n faulty : Int} {lies : List Int} (hl : (l.length : Int) ≤ 9223372036854775807) (hx : ∀ x ∈ l, -32768 ≤ x ∧ x ≤ 32767) (hn : 0 ≤ n ∧ n ≤ 255) (hlies : ∀ y ∈ lies, -32768 ≤ y ∧ y ≤ 32767) :
    m_law33_ClockFair l n faulty lies = some true := by
  unfold m_law33_ClockFair
  have hf := f8 hn
  obtain ⟨t, ht, o1, o2, o3, o4⟩ := times_eq hf hl hx
  rw [ht, Option.bind_some]
  refine jp4_use fun k hk => ?_
  obtain ⟨t', B, lo, hi, e1, e2, e3, e4, e5, e6, e7⟩ := fair4 (x := t) (lies := lies) (faulty := faulty) (n := n) (k := k) hlies o3 hf FUEL t [] 1073741824 (-1073741824) 0 (by omega) (by omega) (by rw [FUEL_eq]; omega) rfl (fun y hy => by have := o4 y hy; omega) (by simp; omega) (by simp) (fun j j0 j1 => by omega) (by omega) (by omega)
  have e1' : m_law33_ClockFair_L4 t faulty n lies k FUEL t 1073741824 (-1073741824) 0 [] = k t' lo hi (ones B) := e1
  rw [e1', hk]
  obtain ⟨j, j0, j1, j2⟩ := some_good (n := t.length) (B := B) (by omega)
  have hj := e5 j j0 j1 j2
  have hjb := e3 _ (nth_mem (l := t') (i := j) j0 (by omega))
  have hw : 0 ≤ hi - lo := by omega
  have hlo : -32768 ≤ lo ∧ lo ≤ 32767 := by omega
  have hhi : -32768 ≤ hi ∧ hi ≤ 32767 := by omega
  have hok : midOk t' (Int.tmod (i64 n) 8) = true := by
    unfold midOk
    rw [Bool.and_eq_true, decide_eq_true_eq, List.all_eq_true]
    exact ⟨by omega, fun y hy => by have := e3 y hy; simp [inT]; omega⟩
  have hb : (bad lo hi t' : Int) ≤ Int.tmod (i64 n) 8 := by
    have := bad_le (t := t') (B := B) (lo := lo) (hi := hi) (fun j a b => e5 j a (by omega))
    omega
  have hm := mid_between (t := t') (f := Int.tmod (i64 n) 8) (lo := lo) (hi := hi) (by omega) hb
  rw [i64_id (x := hi - lo) (by omega), suspects_eq (by omega), if_pos ⟨hok, hw⟩, Option.bind_some]
  dsimp only
  rw [if_neg (by simp)]
  generalize mid t' (Int.tmod (i64 n) 8) = md at hm
  have hsl := susF_len md (hi - lo) 0 t'
  refine jp1_use fun k2 hk2 => ?_
  have h5 := fair5 (s := susF md (hi - lo) 0 t') (t := t') (B := B) (e := 0) (k := k2) (by omega) (susF_up _ _ _ _) (fun q hq => by
    have h := susF_mem md (hi - lo) t' 0 q hq
    rw [Int.sub_zero] at h
    refine ⟨h.1, by omega, Classical.byContradiction fun hn => ?_⟩
    have := e5 q h.1 (by omega) hn
    omega) (by omega) FUEL 0 (by omega) (by omega) (by rw [FUEL_eq]; omega)
  rw [Int.toNat_zero, List.take_zero] at h5
  have h5' : m_law33_ClockFair_L5 (susF md (hi - lo) 0 t', 0) t' (ones B) k2 FUEL (susF md (hi - lo) 0 t') 0 [] = k2 (ones (susF md (hi - lo) 0 t')) := h5
  rw [h5', hk2]
  refine jp0_use fun k3 hk3 => ?_
  rw [fair6 (s := susF md (hi - lo) 0 t') (by omega) hlo hhi (fun i i0 i1 hc => by
    have := susF_all md (hi - lo) t' 0 i.toNat (by omega) (by rw [show ((i.toNat : Nat) : Int) = i from by omega]; omega)
    rwa [show (0 : Int) + ((i.toNat : Nat) : Int) = i from by omega] at this) FUEL 0 (by omega) (by omega) (by rw [FUEL_eq]; omega), hk3, awake_true]
  rfl
end Go.Proofs.Ytkhiiafgikioiaa
