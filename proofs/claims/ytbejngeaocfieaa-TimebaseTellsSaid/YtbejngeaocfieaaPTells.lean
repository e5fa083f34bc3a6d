/- A part of this claim's proof: models of the functions that the law reaches, with the proof that the functions compute them; plain laws about the models. No conditions beyond those in each theorem's statement. -/
import Derived.Test.YtbejngeaocfieaaWTimebaseTells
import Derived.Test.YtbejngeaocfieaaPG
set_option linter.all false
namespace Go.Proofs.Ytbejngeaocfieaa
open Go Go.RowKit Sep
open Classical in
theorem rfits_eq' {s : Su} {c : List Int} (hc : (c.length : Int) ≤ 1000000) : m_ref34_Fits s c = some (decide (fit s c)) := by
  unfold m_ref34_Fits
  rw [rvalid_eq, Option.bind_some]
  by_cases hv : Vl s
  · rw [decide_eq_true (vld_iff.2 hv), Bool.true_and]
    by_cases h : (c.length : Int) = s.fStart.length
    · rw [if_pos (by simpa using h), rwithin_eq (by omega) hc]
      simp only [Option.bind_some]
      congr 1
      rw [Bool.eq_iff_iff, decide_eq_true_eq]
      exact ⟨fun h' => ⟨hv, h, h'⟩, fun h' => h'.2.2⟩
    · rw [if_neg (by simpa using h), decide_eq_false (fun h' : fit s c => h h'.2.1)]; rfl
  · rw [decide_eq_false (fun h => hv (vld_iff.1 h)), decide_eq_false (fun h' : fit s c => hv h'.1)]; rfl
/-! ### the reference's run -/
theorem rrun4 {s : Su} (hs : Vl s) {r : Int} {q : Nat} {out : List (List Int)} {k : List (List Int) → List Int → Option (List (List Int))} (hq : q ≤ 100) (hr : 0 ≤ r ∧ r < out.length) (ho : nth out r = hist s q) :
    ∀ (m : Nat) (now : List Int) (i : Int), 0 ≤ i → i ≤ s.fStart.length → s.fStart.length - i < m → (now.length : Int) = i →
      m_ref34_Run_L4 s r k m out now i = k out (now ++ (rng i (s.fStart.length - i).toNat).map fun i => nth (hist s q) i + nth s.fDrift i) := by
  intro m
  have hn := hs.n13
  have dl := hs.dl
  have hh := hist_len s q
  induction m with
  | zero => intro now i; omega
  | succ m ih =>
    intro now i h0 h1 h2 h3
    rw [m_ref34_Run_L4]
    by_cases hi : i < s.fStart.length
    · have h4 := hist_bd hs q _ (nth_mem (l := hist s q) (i := i) h0 (by omega))
      have h5 := hs.dr _ (nth_mem (l := s.fDrift) (i := i) h0 (by omega))
      unfold bnd at h4
      rw [if_pos (by simpa using hi), chk_pos hr, ho, chk_pos (by omega), chk_pos (by omega), chk_pos (by simp; omega), i64_id (x := nth (hist s q) i + nth s.fDrift i) (by omega), i64_id (x := i + 1) (by omega), ih _ (i + 1) (by omega) (by omega) (by omega) (by simp; omega), rng_from h0 hi]
      simp
    · rw [if_neg (by simpa using hi), rng_end hi]; simp
theorem rrun3 {s : Su} (hs : Vl s) {rounds : Int} (hr : 0 ≤ rounds ∧ rounds ≤ 100) {k : List (List Int) → Option (List (List Int))} :
    ∀ (m : Nat) (r : Nat), (r : Int) ≤ rounds → rounds - r < m → m_ref34_Run_L3 rounds s k m ((List.range (r + 1)).map (hist s)) r = k (runs s rounds) := by
  intro m
  have hn := hs.n13
  induction m with
  | zero => intro r; omega
  | succ m ih =>
    intro r h0 h1
    rw [m_ref34_Run_L3]
    have hh := hist_len s r
    by_cases hlt : (r : Int) < rounds
    · rw [if_pos (by simpa using hlt)]
      refine jp1_use fun k1 hk1 => jp2_use fun k2 hk2 => ?_
      have hx : nth ((List.range (r + 1)).map (hist s)) r = hist s r := by
        have h := nth_lt (l := (List.range (r + 1)).map (hist s)) (i := (r : Int)) (by omega) (by simp; omega)
        rw [← h]; simp
      rw [rrun4 hs (q := r) (by omega) (by simp; omega) hx FUEL [] 0 (by omega) (by omega) (by rw [FUEL_eq]; omega) rfl, hk2, List.nil_append]
      have e : ((rng 0 ((s.fStart.length : Int) - 0).toNat).map fun i => nth (hist s r) i + nth s.fDrift i) = drf s (hist s r) := by
        unfold drf; rw [hh, show ((s.fStart.length : Int) - 0).toNat = s.fStart.length from by omega]
      have hrd := hist_rd hs (r := r) (by omega)
      have hok := hist_ok hs (r := r) (by omega)
      rw [e, rreads_eq hrd, Option.bind_some, rround_eq (by rw [rds_len, drf_len]; omega) (fun x hx => by rw [rds_lens x hx, drf_len]; omega), Option.bind_some, hok]
      dsimp only
      rw [chk_pos (by simp; omega), hk1, show (List.range (r + 1)).map (hist s) ++ [hist s (r + 1)] = (List.range (r + 1 + 1)).map (hist s) from by rw [List.range_succ (n := r + 1), List.map_append]; rfl]
      rw [show i64 ((r : Int) + 1) = ((r + 1 : Nat) : Int) from by rw [i64_id (by omega)]; push_cast; rfl]
      exact ih (r + 1) (by omega) (by push_cast; omega)
    · rw [if_neg (by simpa using hlt)]
      unfold runs
      rw [show rounds.toNat = r from by omega]
theorem rrun_eq {s : Su} (hs : Vl s) {rounds : Int} (hr : 0 ≤ rounds ∧ rounds ≤ 100) : m_ref34_Run s rounds = some (runs s rounds) := by
  unfold m_ref34_Run
  refine jp1_use fun k hk => ?_
  have := rrun3 hs hr (k := k) FUEL 0 (by omega) (by rw [FUEL_eq]; omega)
  rw [hk] at this
  exact this
/-! ### the reference's spread -/
def near (s : Su) (l : List Int) (n : Int) (best : Int) : Prop :=
  0 ≤ best ∧ best ≤ 2000000000 ∧ (∀ i k : Int, 0 ≤ i → i < n → 0 ≤ k → k < l.length → cor s i = true → cor s k = true → nth l i - nth l k ≤ best) ∧
    (best = 0 ∨ ∃ i k : Int, (0 ≤ i ∧ i < l.length ∧ cor s i = true) ∧ (0 ≤ k ∧ k < l.length ∧ cor s k = true) ∧ best = nth l i - nth l k)
theorem spread4 {s : Su} {l : List Int} {i : Int} (hl : (l.length : Int) ≤ 1000000) (hf : (s.fFaulty.length : Int) ≤ 1000000) (hb : ∀ x ∈ l, -1000000000 ≤ x ∧ x ≤ 1000000000) (hi : 0 ≤ i ∧ i < l.length) :
    ∀ (m : Nat) (best q : Int), 0 ≤ q → q ≤ l.length → l.length - q < m → near s l i best → (∀ j : Int, 0 ≤ j → j < q → cor s i = true → cor s j = true → nth l i - nth l j ≤ best) →
      ∃ best', near s l (i + 1) best' ∧ ∀ k : Int → Option Int, m_ref34_Spread_L4 l s i k m best q = k best' := by
  intro m
  induction m with
  | zero => intro best q; omega
  | succ m ih =>
    intro best q h0 h1 h2 h3 h4
    have p1 := h3.1
    have p2 := h3.2.1
    simp only [m_ref34_Spread_L4]
    by_cases hq : q < l.length
    · have b1 := hb _ (nth_mem hi.1 hi.2)
      have b2 := hb _ (nth_mem h0 hq)
      have key : ∃ best', (near s l i best' ∧ ∀ j : Int, 0 ≤ j → j < q + 1 → cor s i = true → cor s j = true → nth l i - nth l j ≤ best') ∧
          ∀ k1 : Int → Option Int, ((m_ref34_Faulty s i).bind fun x_55653 => (if !x_55653 then (m_ref34_Faulty s q).bind fun x_55655 => some (!x_55655) else some false).bind fun b_55657 => chk (b_55657 = true → ((0 : Int) ≤ i ∧ i < ((l.length : Nat) : Int))) (chk (b_55657 = true → ((0 : Int) ≤ q ∧ q < ((l.length : Nat) : Int))) (if b_55657 && (decide ((i64 ((nth l i) - (nth l q))) > best)) then chk ((0 : Int) ≤ i ∧ i < ((l.length : Nat) : Int)) (chk ((0 : Int) ≤ q ∧ q < ((l.length : Nat) : Int)) (k1 (i64 ((nth l i) - (nth l q))))) else k1 best))) = k1 best' := by
        have hfe : ((m_ref34_Faulty s i).bind fun x_55653 => (if !x_55653 then (m_ref34_Faulty s q).bind fun x_55655 => some (!x_55655) else some false)) = some (cor s i && cor s q) := by
          rw [faulty_eq hf, faulty_eq hf]; cases cor s i <;> cases cor s q <;> rfl
        have hbd : ∀ {α β γ : Type} (o : Option α) (f : α → Option β) (g : β → Option γ), (o.bind fun x => (f x).bind g) = (o.bind f).bind g := fun o f g => by cases o <;> rfl
        by_cases hc : (cor s i && cor s q) = true ∧ nth l i - nth l q > best
        · refine ⟨nth l i - nth l q, ⟨⟨by omega, by omega, fun i' k' a b c d e f => ?_, .inr ⟨i, q, ⟨hi.1, hi.2, ?_⟩, ⟨h0, hq, ?_⟩, rfl⟩⟩, fun j j0 j1 jc jd => ?_⟩, fun k1 => ?_⟩
          · have := h3.2.2.1 i' k' a b c d e f; omega
          · exact (Bool.and_eq_true _ _ ▸ hc.1).1
          · exact (Bool.and_eq_true _ _ ▸ hc.1).2
          · by_cases hj : j = q
            · subst hj; omega
            · have := h4 j j0 (by omega) jc jd; omega
          · rw [hbd, hfe, Option.bind_some, chk_pos (fun _ => hi), chk_pos (fun _ => ⟨h0, hq⟩), i64_id (x := nth l i - nth l q) (by omega), if_pos (by rw [hc.1, Bool.true_and, decide_eq_true_eq]; exact hc.2), chk_pos hi, chk_pos ⟨h0, hq⟩]
        · refine ⟨best, ⟨h3, fun j j0 j1 jc jd => ?_⟩, fun k1 => ?_⟩
          · by_cases hj : j = q
            · subst hj
              have : ¬ (nth l i - nth l j > best) := fun h => hc ⟨by rw [jc, jd]; rfl, h⟩
              omega
            · exact h4 j j0 (by omega) jc jd
          · rw [hbd, hfe, Option.bind_some, chk_pos (fun _ => hi), chk_pos (fun _ => ⟨h0, hq⟩), i64_id (x := nth l i - nth l q) (by omega), if_neg (fun h => hc (by rw [Bool.and_eq_true, decide_eq_true_eq] at h; exact h))]
      obtain ⟨best', ⟨n1, n2⟩, n3⟩ := key
      obtain ⟨b3, e2, e1⟩ := ih best' (q + 1) (by omega) (by omega) (by omega) n1 n2
      refine ⟨b3, e2, fun k => ?_⟩
      rw [if_pos (by simpa using hq)]
      refine jp1_use fun k1 hk1 => ?_
      rw [n3 k1, hk1, i64_id (x := q + 1) (by omega), e1 k]
    · refine ⟨best, ⟨h3.1, h3.2.1, fun i' k' a b c d e f => ?_, h3.2.2.2⟩, fun k => by rw [if_neg (by simpa using hq)]⟩
      by_cases hii : i' = i
      · subst hii; exact h4 k' c (by omega) e f
      · exact h3.2.2.1 i' k' a (by omega) c d e f
theorem spread3 {s : Su} {l : List Int} {k : Int → Option Int} (hl : (l.length : Int) ≤ 1000000) (hf : (s.fFaulty.length : Int) ≤ 1000000) (hb : ∀ x ∈ l, -1000000000 ≤ x ∧ x ≤ 1000000000) :
    ∀ (m : Nat) (best i : Int), 0 ≤ i → i ≤ l.length → l.length - i < m → near s l i best → ∃ best', m_ref34_Spread_L3 l s k m best i = k best' ∧ near s l l.length best' := by
  intro m
  induction m with
  | zero => intro best i; omega
  | succ m ih =>
    intro best i h0 h1 h2 h3
    rw [m_ref34_Spread_L3]
    by_cases hi : i < l.length
    · rw [if_pos (by simpa using hi)]
      have key := spread4 hl hf hb ⟨h0, hi⟩ FUEL best 0 (by omega) (by omega) (by rw [FUEL_eq]; omega) h3 (fun j j0 j1 => by omega)
      obtain ⟨best', n1, n2⟩ := key
      obtain ⟨b3, e1, e2⟩ := ih best' (i + 1) (by omega) (by omega) (by omega) n1
      refine ⟨b3, ?_, e2⟩
      rw [← e1]
      refine jp1_use fun k1 hk1 => jp1_use fun k2 hk2 => ?_
      rw [n2 k2, hk2, hk1, i64_id (x := i + 1) (by omega)]
    · rw [if_neg (by simpa using hi)]
      have : i = l.length := by omega
      exact ⟨best, rfl, this ▸ h3⟩
theorem rspread_eq {s : Su} {l : List Int} (hp : 0 < (own s l).length) (hl : (l.length : Int) ≤ 1000000) (hf : (s.fFaulty.length : Int) ≤ 1000000) (hb : ∀ x ∈ l, -1000000000 ≤ x ∧ x ≤ 1000000000) : m_ref34_Spread s l = some (spr s l) := by
  unfold m_ref34_Spread
  refine jp1_use fun k hk => ?_
  obtain ⟨b, e, n⟩ := spread3 (k := k) hl hf hb FUEL 0 0 (by omega) (by omega) (by rw [FUEL_eq]; omega) ⟨by omega, by omega, fun i k a b => by omega, .inl rfl⟩
  rw [e, hk]
  congr 1
  obtain ⟨i, i0, i1, ic, ie⟩ := own_mem.1 (hiOf_mem hp)
  obtain ⟨j, j0, j1, jc, je⟩ := own_mem.1 (loOf_mem hp)
  have h1 := n.2.2.1 i j i0 i1 j0 j1 ic jc
  have h2 := hiOf_ge (loOf_mem hp)
  have h0 := n.1
  unfold spr
  rcases n.2.2.2 with h3 | ⟨i', j', p, q, h3⟩
  · omega
  · have h4 := hiOf_ge (own_mem.2 ⟨i', p.1, p.2.1, p.2.2, rfl⟩ : nth l i' ∈ own s l)
    have h5 := loOf_le (own_mem.2 ⟨j', q.1, q.2.1, q.2.2, rfl⟩ : nth l j' ∈ own s l)
    omega
theorem runs_row {s : Su} {n : Int} : ∀ x ∈ runs s n, x.length = s.fStart.length := by
  intro x hx
  unfold runs at hx
  obtain ⟨j, _, rfl⟩ := List.mem_map.1 hx
  exact hist_len s j
open Classical in
theorem tells_true {s : Su} {c : List Int} {round rounds : Int} : m_law34_TimebaseTells s c round rounds = some true := by
  unfold m_law34_TimebaseTells
  rw [few_eq, Option.bind_some]
  by_cases h : ((s.fStart.length : Int) ≤ 40 ∧ (s.fDrift.length : Int) ≤ 40 ∧ (s.fFaulty.length : Int) ≤ 40 ∧ (s.fErrs.length : Int) ≤ 1001 ∧ (s.fLies.length : Int) ≤ 1001) ∧ ¬ (c.length : Int) > 40
  · obtain ⟨h1, h2⟩ := h
    rw [decide_eq_true h1, if_neg (by simp; omega)]
    have hc : (c.length : Int) ≤ 1000000 := by omega
    rw [rvalid_eq, Option.bind_some, rfits_eq' hc, Option.bind_some, Reads_eq hc, Option.bind_some, run_eq, Option.bind_some, skew_eq hc, Option.bind_some, bound_eq, Option.bind_some, valid_eq, Option.bind_some]
    rw [if_neg (by simp)]
    have hv : decide (vld s) = decide (Vl s) := by congr 1; exact propext vld_iff
    rw [hv]
    refine jp0_use fun k hk => ?_
    -- what is left behind the runs
    have hk' : k = some true := by
      rw [hk]
      refine jp0_use fun k2 hk2 => ?_
      have hk2' : k2 = some true := by
        rw [hk2]
        have q1 : ((if (decide (fit s c)) then (if decide ((if fit s c then (spr s c, 0) else ((0 : Int), (2 : Int))).2 ≠ 0) then some true else (m_ref34_Spread s c).bind fun x_56038 => some (decide ((if fit s c then (spr s c, 0) else ((0 : Int), (2 : Int))).1 ≠ x_56038))).bind fun b_56040 => some b_56040 else some false) : Option Bool) = some false := by
          by_cases hf : fit s c
          · rw [decide_eq_true hf, if_pos rfl]
            simp only [if_pos hf]
            rw [if_neg (by simp), rspread_eq (own_pos hf.1 (by have := hf.2.1; omega)) hc hf.1.fl' (fun x hx => by have := wi_iff.1 hf.2.2 x hx; omega)]
            simp
          · rw [decide_eq_false hf]; rfl
        rw [q1, Option.bind_some]
        rw [if_neg (by by_cases hf : fit s c <;> simp [hf])]
        have q2 : ((if (decide (Vl s)) && (decide ((if Vl s then (bound s, 0) else ((0 : Int), (2 : Int))).2 = 0)) then (m_ref34_Spread s s.fDrift).bind fun x_56059 => some (decide ((if Vl s then (bound s, 0) else ((0 : Int), (2 : Int))).1 = (i64 ((i64 (x_56059 + (i64 (4 * s.fE)))) + 1)))) else some false) : Option Bool) = some (decide (Vl s)) := by
          by_cases hs : Vl s
          · have hp := own_pos hs (l := s.fDrift) (by have := hs.dl; omega)
            have hb := spr_bd hp hs.dr
            have e0 := hs.e0
            have e1 := hs.e1
            simp only [if_pos hs, decide_eq_true hs]
            rw [if_pos (by simp), rspread_eq hp (by have := hs.dl; have := hs.n13; omega) hs.fl' (fun x hx => by have := hs.dr x hx; omega), Option.bind_some, i64_id (x := 4 * s.fE) (by omega), i64_id (x := spr s s.fDrift + 4 * s.fE) (by omega), i64_id (by omega)]
            simp [bound]
          · rw [decide_eq_false hs]; rfl
        rw [q2, Option.bind_some, awake_true, if_pos (by by_cases hs : Vl s <;> simp [hs])]
        rfl
      rw [hk2']
      by_cases hr : Vl s ∧ 0 ≤ rounds ∧ rounds ≤ 100
      · have hs := hr.1
        have n13 := hs.n13
        rw [if_pos (by simp [hs]; omega), if_pos hr, if_neg (by simp), rrun_eq hs hr.2, Option.bind_some, lists_eq (by rw [runs_len s hr.2.1]; omega) (fun x hx => by rw [runs_row x hx]; omega), decide_eq_true rfl]
        rfl
      · rw [if_neg (by simp only [Bool.and_eq_true, decide_eq_true_eq]; exact fun h' => hr ⟨h'.1.1, h'.1.2, h'.2⟩), if_neg hr, if_neg (by simp)]
    rw [hk']
    by_cases hr : fit s c ∧ 0 ≤ round ∧ round ≤ 1000
    · have hf := hr.1
      have n13 := hf.1.n13
      have hl := hf.2.1
      rw [if_pos (by simp [hf]; omega), if_pos hr, if_neg (by simp), rreads_eq (fit_rd hf hr.2), Option.bind_some, lists_eq (by rw [rds_len]; omega) (fun x hx => by rw [rds_lens x hx]; omega), decide_eq_true rfl]
      rfl
    · rw [if_neg (by simp only [Bool.and_eq_true, decide_eq_true_eq]; exact fun h' => hr ⟨h'.1.1, h'.1.2, h'.2⟩), if_neg hr, if_neg (by simp)]
  · rw [if_pos (by simp; omega), awake_true]; rfl
end Go.Proofs.Ytbejngeaocfieaa
